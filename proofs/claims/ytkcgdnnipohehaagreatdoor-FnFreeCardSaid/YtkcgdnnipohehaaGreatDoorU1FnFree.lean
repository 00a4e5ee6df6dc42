/- Texts of this claim, one behind the other: part 1. -/
import Derived.WalkKit
import Derived.Below
import Derived.Laws.OwnMore
import Derived.Maps.AppendAt
import Derived.Deep.Draws
import Derived.Lib.Hide
import Derived.Test.YtkcgdnnipohehaaGreatDoorRows
import Derived.ProofKit
import Derived.OpenShut
import Derived.ShutString
import Derived.ChangeSame
import Derived.Carry
import Derived.WideKeyArgs
import Derived.Deep.Slices
import Derived.Deep.Fields
import Derived.ChangeSlices
import Derived.IntWalk
import Derived.Lib.SplitLaws
import Derived.Lib.Join
import Derived.Lib.Repeat
import Derived.Test.YtkcgdnnipohehaaGreatDoorProg
import Derived.WalkLawsBesides
import Derived.WalkSpells
import Derived.Laws.BytesArg
import Derived.BigQuiet
import Derived.Deep.QuietTactic
import Derived.Laws.BitsLemmas
import Derived.Outline
import Derived.Deep.RegionHeld3
import Derived.Deep.RegionWith
import Derived.Deep.DeepCutAuto
import Derived.Deep.CutBlock
import Derived.Deep.DrawnRows
import Derived.StillTail
import Derived.OrdersHeld
import Derived.Laws.AppendOwn
/- Small predicates and lemmas on memory that the walks of this family share: a slice that reads as a list, frames, results. No program is in sight. -/
namespace Go.Proofs.YtkcgdnnipohehaaGreatDoor
open Go.RowKit
set_option linter.unusedVariables false

abbrev C := Int × Int

/-- The cells of a list of integers, of a list of pairs. -/
def vI (xs : List Int) : List Value := xs.map (.int .i64)
def vC : List C → List Value
  | [] => []
  | p :: t => .int .i64 p.1 :: .int .i64 p.2 :: vC t
def vB (xs : List UInt8) : List Value := xs.map fun b => .int .u8 b.toNat
/-- A slice's header: address, length, capacity. -/
abbrev H := Option Addr × Nat × Nat
def hd (h : H) : Value := .slice h.1 h.2.1 h.2.2
def vS (hs : List H) : List Value := hs.map hd

theorem vI_length (xs : List Int) : (vI xs).length = xs.length := by simp [vI]
theorem vS_length (xs : List H) : (vS xs).length = xs.length := by simp [vS]
theorem vC_length (xs : List C) : (vC xs).length = xs.length * 2 := by induction xs with
  | nil => rfl
  | cons p t ih => simp only [vC, List.length_cons, ih]; omega
theorem vS_append (a b : List H) : vS (a ++ b) = vS a ++ vS b := by simp [vS]
theorem vC_append (a b : List C) : vC (a ++ b) = vC a ++ vC b := by
  induction a with
  | nil => rfl
  | cons p t ih => simp [vC, ih]
theorem vC_get1 (xs : List C) (k : Nat) (h : k < xs.length) : (vC xs)[k * 2]? = some (.int .i64 xs[k].1) := by
  induction xs generalizing k with
  | nil => simp at h
  | cons p t ih =>
    cases k with
    | zero => simp [vC]
    | succ k =>
      have := ih k (by simpa using h)
      rw [show (k + 1) * 2 = k * 2 + 1 + 1 from by omega]
      simpa [vC] using this
theorem vC_get2 (xs : List C) (k : Nat) (h : k < xs.length) : (vC xs)[k * 2 + 1]? = some (.int .i64 xs[k].2) := by
  induction xs generalizing k with
  | nil => simp at h
  | cons p t ih =>
    cases k with
    | zero => simp [vC]
    | succ k =>
      have := ih k (by simpa using h)
      rw [show (k + 1) * 2 + 1 = k * 2 + 1 + 1 + 1 from by omega]
      simpa [vC] using this
theorem vC_drop (xs : List C) (k : Nat) : vC (xs.drop k) = (vC xs).drop (k * 2) := by
  induction xs generalizing k with
  | nil => simp [vC]
  | cons p t ih =>
    cases k with
    | zero => simp
    | succ k => rw [show (k + 1) * 2 = k * 2 + 1 + 1 from by omega]; simp [vC, ih]
theorem vC_take (xs : List C) (k : Nat) : vC (xs.take k) = (vC xs).take (k * 2) := by
  induction xs generalizing k with
  | nil => simp [vC]
  | cons p t ih =>
    cases k with
    | zero => simp [vC]
    | succ k => rw [show (k + 1) * 2 = k * 2 + 1 + 1 from by omega]; simp [vC, ih]
theorem vS_one (xs : List H) : ∀ u ∈ vS xs, u.oneCell' = true := by intro u h; simp only [vS, List.mem_map] at h; obtain ⟨x, _, rfl⟩ := h; rfl
theorem vC_one (xs : List C) : ∀ u ∈ vC xs, u.oneCell' = true := by
  induction xs with
  | nil => intro u h; cases h
  | cons p t ih =>
    intro u h
    simp only [vC, List.mem_cons] at h
    rcases h with rfl | rfl | h
    · rfl
    · rfl
    · exact ih u h

/-- The slice at address A reads, in world w, as the cells vs. -/
def Rd (w : World) (A : Option Addr) (vs : List Value) : Prop :=
  vs = [] ∨ ∃ g off, A = some ⟨g, off, none⟩ ∧ ∀ j u, vs[j]? = some u → w.cell? ⟨g, off + j, none⟩ = some u

section
variable {w w' : World} {A : Option Addr} {vs : List Value}
theorem Rd.none_ : Rd w A [] := .inl rfl
theorem Rd.keep (h : Rd w A vs) (hk : ∀ p : Addr, p.block < w.heap.size → w'.cell? p = w.cell? p) : Rd w' A vs := by
  rcases h with h | ⟨g, off, e, h⟩
  · exact .inl h
  · exact .inr ⟨g, off, e, fun j u hu => (hk _ (World.block_lt_of_cell? w _ (h j u hu))).trans (h j u hu)⟩
theorem Rd.below (h : Rd w A vs) (hb : Below w.heap.size w w') : Rd w' A vs := h.keep fun _ hp => hb.cell hp
theorem Rd.drew (h : Rd w A vs) : Rd w.drew A vs := h
theorem Rd.drewN (h : Rd w A vs) (k : Nat) : Rd (w.drewN k) A vs := h
theorem Rd.alloc (h : Rd w A vs) (o : Obj) : Rd (w.alloc o) A vs := h.keep fun p hp => World.cell?_alloc_lt w o p hp
theorem Rd.drop (h : Rd w A vs) (k cap : Nat) (hc : vs.length ≤ cap) : Rd w (if cap = k then A else A.map (·.add k)) (vs.drop k) := by
  rcases h with rfl | ⟨g, off, rfl, h⟩
  · simp [Rd]
  · by_cases hk : vs.length ≤ k
    · exact .inl (by simp [hk])
    · refine .inr ⟨g, off + k, ?_, fun j u hu => ?_⟩
      · rw [if_neg (by omega)]
        simp only [Option.map_some, Addr.add]
        split
        · subst_vars; rfl
        · rfl
      · rw [Nat.add_assoc]; exact h _ u (by rw [← hu, List.getElem?_drop])
theorem Rd.take (h : Rd w A vs) (k : Nat) : Rd w A (vs.take k) := by
  rcases h with rfl | ⟨g, off, rfl, h⟩
  · simp [Rd]
  · refine .inr ⟨g, off, rfl, fun j u hu => h j u ?_⟩
    rw [List.getElem?_take] at hu
    split at hu
    · exact hu
    · cases hu
theorem Rd.of_own {base e n c size : Nat} (h : w.ownsRow base e size (.slice A n c) n vs) : Rd w A vs := by
  rcases h.2 with ⟨hv, hn⟩ | ⟨g, cap, cur, hv, _, hg, _⟩
  · left
    have := h.1
    rw [hn] at this
    exact List.eq_nil_of_length_eq_zero (by omega)
  · right
    injection hv with hA
    subst hA
    refine ⟨g, 0, rfl, fun j u hu => ?_⟩
    have := h.cells (g := g) rfl j u hu
    have e : (⟨g, 0, none⟩ : Addr).add j = ⟨g, j, none⟩ := by unfold Addr.add; split <;> simp_all
    rw [e] at this
    simpa using this
end

theorem RdI.at_ {w : World} {A : Option Addr} {xs : List Int} {k : Nat} (h : Rd w A (vI xs)) (hk : k < xs.length) :
    ∃ g off, A = some ⟨g, off, none⟩ ∧ g < w.heap.size ∧ w.cell? ⟨g, off + k, none⟩ = some (.int .i64 xs[k]) := by
  rcases h with h | ⟨g, off, e, h⟩
  · have := congrArg List.length h
    rw [vI_length] at this
    simp at this
    subst this
    simp at hk
  · have := h k (.int .i64 xs[k]) (by simp [vI, hk])
    exact ⟨g, off, e, World.block_lt_of_cell? w _ this, this⟩
theorem RdS.at_ {w : World} {A : Option Addr} {xs : List H} {k : Nat} (h : Rd w A (vS xs)) (hk : k < xs.length) :
    ∃ g off, A = some ⟨g, off, none⟩ ∧ g < w.heap.size ∧ w.cell? ⟨g, off + k, none⟩ = some (.slice xs[k].1 xs[k].2.1 xs[k].2.2) := by
  rcases h with h | ⟨g, off, e, h⟩
  · have := congrArg List.length h
    rw [vS_length] at this
    simp at this
    subst this
    simp at hk
  · have := h k (hd xs[k]) (by simp [vS, hk])
    exact ⟨g, off, e, World.block_lt_of_cell? w _ this, this⟩
theorem RdC.at_ {w : World} {A : Option Addr} {xs : List C} {k : Nat} (h : Rd w A (vC xs)) (hk : k < xs.length) :
    ∃ g off, A = some ⟨g, off, none⟩ ∧ g < w.heap.size ∧ w.cell? ⟨g, off + k * 2, none⟩ = some (.int .i64 xs[k].1) ∧ w.cell? ⟨g, off + k * 2 + 1, none⟩ = some (.int .i64 xs[k].2) := by
  rcases h with h | ⟨g, off, e, h⟩
  · have := congrArg List.length h
    rw [vC_length] at this
    simp only [List.length_nil] at this
    omega
  · have h1 := h _ _ (vC_get1 xs k hk)
    have h2 := h _ _ (vC_get2 xs k hk)
    exact ⟨g, off, e, World.block_lt_of_cell? w _ h1, h1, by rw [Nat.add_assoc]; exact h2⟩

/-- A block that is known whole. -/
def Blk (w : World) (g : Nat) (t : TypeId) (cs : Array Value) : Prop := w.heap[g]? = some (.cells cs t (0, 0))
section
variable {w w' : World} {g : Nat} {t : TypeId} {cs : Array Value}
theorem Blk.lt (h : Blk w g t cs) : g < w.heap.size := by
  rcases Nat.lt_or_ge g w.heap.size with hlt | hge
  · exact hlt
  · unfold Blk at h; rw [Array.getElem?_eq_none hge] at h; cases h
theorem Blk.cell (h : Blk w g t cs) (i : Nat) : w.cell? ⟨g, i, none⟩ = cs[i]? := cell_of_row w g i cs t (0, 0) h
theorem Blk.frozen (h : Blk w g t cs) (i : Nat) : w.frozen? ⟨g, i, none⟩ = false := by
  unfold Blk at h
  simp [World.frozen?, h]
theorem Blk.new (w : World) (t : TypeId) (cs : Array Value) : Blk (w.alloc (.cells cs t)) w.heap.size t cs := heap_alloc_new w _
theorem Blk.drew (h : Blk w g t cs) : Blk w.drew g t cs := h
theorem Blk.drewN (h : Blk w g t cs) (n : Nat) : Blk (w.drewN n) g t cs := h
theorem Blk.alloc (h : Blk w g t cs) (o : Obj) : Blk (w.alloc o) g t cs := (Below.heap_alloc w o g h.lt).trans h
theorem Blk.set_ (h : Blk w g t cs) (i : Nat) (u : Value) : Blk (w.setCell ⟨g, i, none⟩ u) g t (cs.setIfInBounds i u) := by
  unfold Blk at h ⊢
  simp [World.setCell, Array.getElem?_modify, h]
theorem Blk.far (h : Blk w g t cs) {p : Addr} (hp : g ≠ p.block) (u : Value) : Blk (w.setCell p u) g t cs := (Below.heap_setCell w p u g hp).trans h
theorem Blk.below (h : Blk w g t cs) (hb : Below w.heap.size w w') : Blk w' g t cs := (hb.block g h.lt).trans h
theorem Blk.grown {row : Option Nat} (h : Blk w g t cs) (hb : w.grownBy w' row) (hg : some g ≠ row) : Blk w' g t cs := (hb.block g h.lt hg).trans h
end

section
variable {a w w' : World}
theorem bel_alloc (h : Below a.heap.size a w) (o : Obj) : Below a.heap.size a (w.alloc o) := h.alloc h.size o
theorem bel_drew (h : Below a.heap.size a w) : Below a.heap.size a w.drew := h.drew
theorem bel_drewN {n : Nat} (h : Below a.heap.size a w) : Below a.heap.size a (w.drewN n) := ⟨h.os, h.tape, h.output, h.size, h.block⟩
theorem bel_set {p : Addr} {u : Value} (h : Below a.heap.size a w) (hp : a.heap.size ≤ p.block) : Below a.heap.size a (w.setCell p u) := h.setCell hp u
theorem bel_trans (h : Below a.heap.size a w) (k : Below w.heap.size w w') : Below a.heap.size a w' := h.trans (k.mono h.size)
theorem bel_grown {row : Option Nat} (h : Below a.heap.size a w) (hg : w.grownBy w' row) (hr : ∀ k, row = some k → a.heap.size ≤ k) : Below a.heap.size a w' := h.grown hg h.size hr
end

theorem bcell {W w1 : World} (hb : Below W.heap.size W w1) : (∀ b o, b < W.heap.size → w1.cell? ⟨b, o, none⟩ = W.cell? ⟨b, o, none⟩) ∧ (∀ b o, b < W.heap.size → w1.frozen? ⟨b, o, none⟩ = W.frozen? ⟨b, o, none⟩) :=
  ⟨fun b o h => hb.cell (p := ⟨b, o, none⟩) h, fun b o h => hb.frozen (p := ⟨b, o, none⟩) h⟩
theorem keep_alloc {w : World} {o : Obj} {a : Addr} {v : Value} (h : w.cell? a = some v) : (w.alloc o).cell? a = some v := (World.cell?_alloc_lt w o a (World.block_lt_of_cell? w a h)).trans h
theorem keep_drew {w : World} {a : Addr} {v : Value} (h : w.cell? a = some v) : (w.drew).cell? a = some v := h
theorem keep_below {w w' : World} {a : Addr} {v : Value} (hb : Below w.heap.size w w') (h : w.cell? a = some v) : w'.cell? a = some v := (hb.cell (World.block_lt_of_cell? w a h)).trans h
theorem keep_grown {w w' : World} {row : Option Nat} {a : Addr} {v : Value} (hg : w.grownBy w' row) (h : w.cell? a = some v) (hne : some a.block ≠ row) : w'.cell? a = some v := hg.cell h hne
theorem keep_set {w : World} {p a : Addr} {u v : Value} (h : w.cell? a = some v) (hp : p ≠ a) : (w.setCell p u).cell? a = some v := (World.cell?_setCell_other w p a u hp).trans h

/-- append onto a row of the call's own, from a source that reads as a list (nil or not). -/
theorem run_append_of_nil {P : Program} (w : World) (base : Nat) (t ty e : TypeId) (i : TypeInfo) (size : Nat) (ht : P.underlying t = some (.slice e)) (hi : P.info? e = some i)
    (v : Value) (n : Nat) (xs : List Value) (hown : w.ownsRow base e size v n xs) (c : Nat) (A : Option Addr) : (Builtin.append_ #[t, t] ty #[v, .slice A 0 c]).run P w = .ok v w := by
  rcases A with _ | ad
  · rcases hown.2 with ⟨rfl, rfl⟩ | ⟨g, cap, cur, rfl, _, _, hnc, _⟩
    · simp [Builtin.append_, run_underlying ht, sizeOf, typeInfo, hi, Builtin.lenOf, Builtin.firstCells]
    · simp [Builtin.append_, run_underlying ht, sizeOf, typeInfo, hi, Builtin.lenOf, Builtin.firstCells, hnc, storeCells]
  · rcases hown.2 with ⟨rfl, rfl⟩ | ⟨g, cap, cur, rfl, _, _, hnc, _⟩
    · simp [Builtin.append_, run_underlying ht, sizeOf, typeInfo, hi, Builtin.lenOf, Builtin.firstCells, loadCells, loadCellsFrom]
    · simp [Builtin.append_, run_underlying ht, sizeOf, typeInfo, hi, Builtin.lenOf, Builtin.firstCells, hnc, storeCells, loadCells, loadCellsFrom]

/-- The block of a slice's address. -/
def ob (A : Option Addr) : Option Nat := A.map (·.block)
theorem ownBlock_slice (A : Option Addr) (n c : Nat) : (Value.slice A n c).ownBlock = ob A := by cases A <;> rfl

theorem own_form {w : World} {base e size n : Nat} {v : Value} {xs : List Value} (h : w.ownsRow base e size v n xs) : ∃ A c, v = .slice A n c := by
  rcases h.2 with ⟨rfl, rfl⟩ | ⟨g, cap, cur, rfl, _⟩
  · exact ⟨_, _, rfl⟩
  · exact ⟨_, _, rfl⟩
theorem own_lt {w : World} {base e size n c : Nat} {A : Option Addr} {xs : List Value} (h : w.ownsRow base e size (.slice A n c) n xs) : ∀ g, ob A = some g → base ≤ g ∧ g < w.heap.size := by
  intro g hg
  exact h.lt g (by rw [ownBlock_slice]; exact hg)

theorem run_app {P : Program} (w : World) (base : Nat) (t ty e : TypeId) (i : TypeInfo) (z : Value) (size bytes : Nat) (ht : P.underlying t = some (.slice e)) (hi : P.info? e = some i) (hz : i.zero = some z)
    (hsize : i.size = size) (hby : i.bytes = bytes) (hzs : z.cells.size = size) (hsz : 0 < size)
    (A : Option Addr) (n c : Nat) (xs : List Value) (hown : w.ownsRow base e size (.slice A n c) n xs)
    (A2 : Option Addr) (m c2 : Nat) (news : List Value) (hr : Rd w A2 news) (hl : news.length = m * size) (h1 : ∀ u ∈ news, u.oneCell' = true)
    (h63 : n + m ≤ maxLen) (hbytes : (n + m) * bytes ≤ 140737488355328) (hbase : base ≤ w.heap.size) :
    ∃ A' c' w', (Builtin.append_ #[t, t] ty #[.slice A n c, .slice A2 m c2]).run P w = .ok (.slice A' (n + m) c') w' ∧ w'.ownsRow base e size (.slice A' (n + m) c') (n + m) (xs ++ news) ∧ w.grownBy w' (ob A) ∧
      (ob A' = ob A ∨ ob A' = some w.heap.size) := by
  rcases hr with rfl | ⟨g, off, rfl, hc⟩
  · have hm : m = 0 := by
      simp only [List.length_nil] at hl
      rcases Nat.eq_zero_or_pos m with h0 | h0
      · exact h0
      · have := Nat.mul_pos h0 hsz; omega
    subst hm
    exact ⟨A, c, w, run_append_of_nil w base t ty e i size ht hi _ n xs hown c2 A2, by simpa using hown, World.grownBy.refl w _, .inl rfl⟩
  · have hcells : ∀ j u, news[j]? = some u → w.cell? ((⟨g, off, none⟩ : Addr).add j) = some u := by
      intro j u hu
      have e : (⟨g, off, none⟩ : Addr).add j = ⟨g, off + j, none⟩ := by unfold Addr.add; split <;> simp_all
      rw [e]; exact hc j u hu
    obtain ⟨v', w', hrun, h2, h3, _, h5⟩ := run_append_own_at (P := P) w base t ty e i z size bytes ht hi hz hsize hby hzs hsz _ n xs hown ⟨g, off, none⟩ m c2 news hl hcells h1 h63 hbytes hbase
    obtain ⟨A', c', rfl⟩ := own_form h2
    rw [ownBlock_slice] at h3 h5
    rw [ownBlock_slice] at h5
    exact ⟨A', c', w', hrun, h2, h3, h5⟩

theorem wp_app {P : Program} (w : World) {o : Oper} {a : Act} {K : Act → World → Prop} {Q : Exit → Act → World → Prop} (s x : Operand) (t : TypeId)
    (ho : o.op = .call { callee := .builtin .append, args := #[s, x], argTypes := #[t, t] })
    (base : Nat) (e : TypeId) (i : TypeInfo) (z : Value) (size bytes : Nat) (ht : P.underlying t = some (.slice e)) (hi : P.info? e = some i) (hz : i.zero = some z)
    (hsize : i.size = size) (hby : i.bytes = bytes) (hzs : z.cells.size = size) (hsz : 0 < size)
    (A : Option Addr) (n c : Nat) (xs : List Value) (hs : a.eval s = .slice A n c) (hown : w.ownsRow base e size (.slice A n c) n xs)
    (A2 : Option Addr) (m c2 : Nat) (news : List Value) (hx : a.eval x = .slice A2 m c2) (hr : Rd w A2 news) (hl : news.length = m * size) (h1 : ∀ u ∈ news, u.oneCell' = true)
    (h63 : n + m ≤ maxLen) (hbytes : (n + m) * bytes ≤ 140737488355328) (hbase : base ≤ w.heap.size)
    (h : ∀ A' c' w', w'.ownsRow base e size (.slice A' (n + m) c') (n + m) (xs ++ news) → w.grownBy w' (ob A) → (ob A' = ob A ∨ ob A' = some w.heap.size) → K (a.put o.dst (.slice A' (n + m) c')) w') :
    o.wp P a w K Q := by
  obtain ⟨A', c', w', hrun, h2, h3, h4⟩ := run_app (P := P) w base t o.type e i z size bytes ht hi hz hsize hby hzs hsz A n c xs hown A2 m c2 news hr hl h1 h63 hbytes hbase
  unfold Oper.wp execOp
  simp only [ho, resolve, invoke, builtin, Sem.run_bind, Sem.run_pure, Result.andThen_ok, List.map_toArray, List.map_cons, List.map_nil, hs, hx, hrun]
  exact h A' c' w' h2 h3 h4

theorem wpList_app {P : Program} (w : World) {ops : Array Oper} {rest : List Oper} {o : Oper} {a : Act} {Q : Exit → Act → World → Prop} (hgd : o.guard = none) (s x : Operand) (t : TypeId)
    (ho : o.op = .call { callee := .builtin .append, args := #[s, x], argTypes := #[t, t] })
    (base : Nat) (e : TypeId) (i : TypeInfo) (z : Value) (size bytes : Nat) (ht : P.underlying t = some (.slice e)) (hi : P.info? e = some i) (hz : i.zero = some z)
    (hsize : i.size = size) (hby : i.bytes = bytes) (hzs : z.cells.size = size) (hsz : 0 < size)
    (A : Option Addr) (n c : Nat) (xs : List Value) (hs : a.eval s = .slice A n c) (hown : w.ownsRow base e size (.slice A n c) n xs)
    (A2 : Option Addr) (m c2 : Nat) (news : List Value) (hx : a.eval x = .slice A2 m c2) (hr : Rd w A2 news) (hl : news.length = m * size) (h1 : ∀ u ∈ news, u.oneCell' = true)
    (h63 : n + m ≤ maxLen) (hbytes : (n + m) * bytes ≤ 140737488355328) (hbase : base ≤ w.heap.size)
    (h : ∀ A' c' w', w'.ownsRow base e size (.slice A' (n + m) c') (n + m) (xs ++ news) → w.grownBy w' (ob A) → (ob A' = ob A ∨ ob A' = some w.heap.size) → wpList P ops Q rest (a.put o.dst (.slice A' (n + m) c')) w') :
    wpList P ops Q (o :: rest) a w :=
  wpList_plain hgd fun _ hK => wp_app w s x t ho base e i z size bytes ht hi hz hsize hby hzs hsz A n c xs hs hown A2 m c2 news hx hr hl h1 h63 hbytes hbase fun A' c' w' h2 h3 h4 => hK _ _ (h A' c' w' h2 h3 h4)

theorem rd_new (w : World) (t : TypeId) (cs : Array Value) : Rd (w.alloc (.cells cs t)) (some ⟨w.heap.size, 0, none⟩) cs.toList :=
  .inr ⟨_, 0, rfl, fun j u hu => by rw [(Blk.new w t cs).cell]; simpa using hu⟩
theorem rd_newC (w : World) (t : TypeId) (x y : Int) : Rd (w.alloc (.cells #[.int .i64 x, .int .i64 y] t)) (some ⟨w.heap.size, 0, none⟩) (vC [(x, y)]) := rd_new w t _
theorem rd_newS (w : World) (t : TypeId) (h : H) : Rd (w.alloc (.cells #[hd h] t)) (some ⟨w.heap.size, 0, none⟩) (vS [h]) := rd_new w t _
theorem own_new (w : World) (t : TypeId) (size n : Nat) (cs : Array Value) (hs : cs.size = n * size) (hm : n ≤ maxLen) {base : Nat} (hb : base ≤ w.heap.size) :
    (w.alloc (.cells cs t)).ownsRow base t size (.slice (some ⟨w.heap.size, 0, none⟩) n n) n cs.toList :=
  ⟨by simpa using hs, .inr ⟨_, n, cs, rfl, hb, heap_alloc_new w _, Nat.le_refl _, hm, hs, by rw [← hs, ← Array.length_toList, List.take_length]⟩⟩
theorem own_newC (w : World) (t : TypeId) (x y : Int) {base : Nat} (hb : base ≤ w.heap.size) :
    (w.alloc (.cells #[.int .i64 x, .int .i64 y] t)).ownsRow base t 2 (.slice (some ⟨w.heap.size, 0, none⟩) 1 1) 1 (vC [(x, y)]) := own_new w t 2 1 _ rfl (by simp [maxLen]) hb
/-- What is owned stays so where its block is as it was. -/
theorem own_keep {w w' : World} {base e size n c : Nat} {A : Option Addr} {xs : List Value} (h : w.ownsRow base e size (.slice A n c) n xs) (hb : Below w.heap.size w w') : w'.ownsRow base e size (.slice A n c) n xs := by
  refine ⟨h.1, ?_⟩
  rcases h.2 with hn | ⟨g, cap, cur, hv, hg, hgg, rest⟩
  · exact .inl hn
  · exact .inr ⟨g, cap, cur, hv, hg, by rw [hb.block g (Array.getElem?_eq_some_iff.1 hgg).1]; exact hgg, rest⟩
theorem own_set {w : World} {base e size n c : Nat} {A : Option Addr} {xs : List Value} (h : w.ownsRow base e size (.slice A n c) n xs) {p : Addr} (hp : ∀ g, ob A = some g → g ≠ p.block) (u : Value) : (w.setCell p u).ownsRow base e size (.slice A n c) n xs := by
  refine ⟨h.1, ?_⟩
  rcases h.2 with hn | ⟨g, cap, cur, hv, hg, hgg, rest⟩
  · exact .inl hn
  · refine .inr ⟨g, cap, cur, hv, hg, ?_, rest⟩
    injection hv with hA
    subst hA
    rw [Below.heap_setCell w p u g (hp g rfl)]; exact hgg
theorem own_base {w : World} {base base' e size n c : Nat} {A : Option Addr} {xs : List Value} (h : w.ownsRow base e size (.slice A n c) n xs) (hb : base' ≤ base) : w.ownsRow base' e size (.slice A n c) n xs := by
  refine ⟨h.1, ?_⟩
  rcases h.2 with hn | ⟨g, cap, cur, hv, hg, hgg, rest⟩
  · exact .inl hn
  · exact .inr ⟨g, cap, cur, hv, Nat.le_trans hb hg, hgg, rest⟩
theorem Rd.grown {w w' : World} {A : Option Addr} {vs : List Value} {row : Option Nat} (h : Rd w A vs) (hg : w.grownBy w' row) (hne : ∀ g, ob A = some g → some g ≠ row) : Rd w' A vs := by
  rcases h with h | ⟨g, off, rfl, h⟩
  · exact .inl h
  · exact .inr ⟨g, off, rfl, fun j u hu => (World.cell?_of_block (w := w) (hg.block g (World.block_lt_of_cell? w _ (h j u hu)) (hne g rfl))).trans (h j u hu)⟩
theorem bel_app {a w w' : World} {A : Option Addr} (h : Below a.heap.size a w) (hg : w.grownBy w' (ob A)) (hr : ∀ g, ob A = some g → a.heap.size ≤ g) : Below a.heap.size a w' := bel_grown h hg hr

/-- A result that is no memory; nothing that was there has turned. -/
def Ret (w : World) (v : Value) (e : Ending) (w' : World) : Prop := e = .returned v ∧ Below w.heap.size w w'
/-- A result that is a slice of the call's own: its cells are vs. -/
def RetS (w : World) (E sz : Nat) (vs : List Value) (e : Ending) (w' : World) : Prop :=
  ∃ A n c, e = .returned (.slice A n c) ∧ w'.ownsRow w.heap.size E sz (.slice A n c) n vs ∧ Below w.heap.size w w'
/-- The same beside a second result. -/
def RetS2 (w : World) (E sz : Nat) (vs : List Value) (v : Value) (e : Ending) (w' : World) : Prop :=
  ∃ A n c, e = .returned (.tuple #[.slice A n c, v]) ∧ w'.ownsRow w.heap.size E sz (.slice A n c) n vs ∧ Below w.heap.size w w'

theorem own_len {w : World} {base e size n : Nat} {v : Value} {xs : List Value} (h : w.ownsRow base e size v n xs) : xs.length = n * size := h.1
theorem own_nil (w : World) (base e size : Nat) : w.ownsRow base e size (.slice none 0 0) 0 [] := World.ownsRow_nil w base e size
end Go.Proofs.YtkcgdnnipohehaaGreatDoor

/- The row's last step, out of 'Below': all that was there reads as it did. -/
namespace Go.Proofs.YtkcgdnnipohehaaGreatDoor
open Go.RowKit Go.WideShapes Go.ChangeShapes
set_option linter.unusedVariables false
theorem own_prog : ownKnob Tryz.prog.godebug = none := by kernel_rfl
section
variable {H : Type} {enc : TypeId × Value → H} {P : Program}
theorem post_of_below {f : Func} {s : ChangeSpec} {apart fresh handsOn again : Bool} {W W' : World} {args : Array Value} {v : Value} {ds gs : List (DataW H)} {before pa pv : List MemPlace}
    (hW : DataW.Whole enc P f.params.toList s.vars apart W args.toList ds gs before)
    (hres : ∀ (b : Nat) (sp : Nat → Bool) (hd : Bool), DataW.TrodAll enc P W' b sp hd f.resultTypes.toList (v.resultList f.resultTypes.size) (s.fn H (ds ++ gs)).results [])
    (hargs : ∀ sp : Nat → Bool, (∀ p ∈ before, sp p.block = true) → DataW.TrodAll enc P W' 0 sp true f.params.toList args.toList (s.fn H (ds ++ gs)).args pa)
    (hvars : ∀ sp : Nat → Bool, (∀ p ∈ before, sp p.block = true) → DataW.TrodVars enc P W' sp s.vars (s.fn H (ds ++ gs)).vars pv)
    (hps : before = pa ++ pv) (hb : Below W.heap.size W W')
    (hok : ∀ (j : Nat) (t : TypeId) (r : Value), f.resultTypes[j]? = some t → (v.resultList f.resultTypes.size)[j]? = some r → Value.okWide P W' .any 0 t r) :
    s.post enc P f apart fresh handsOn again W args v W' := by
  have hlt : ∀ p ∈ before, p.block < W.heap.size := fun p hp => hW.lt p hp
  have hold : ∀ p ∈ before, (fun b => decide (b < W.heap.size)) p.block = true := fun p hp => by simpa using hlt p hp
  refine ⟨ds, gs, before, [], pa, pv, hW, hres _ _ _, hargs _ hold, hvars _ hold, World.keptBut_mono (fun p hp => ⟨hp, ?_⟩) (hb.frame (· ∈ before)), fun _ => ?_⟩
  · rw [hps, List.mem_append] at hp
    exact Or.inr hp
  · obtain ⟨_, _, _, _, _, hz, hn⟩ := hW
    refine ⟨hok, _, _, ([] ++ pa) ++ pv, ⟨[] ++ pa, pv, trodAll_append (hargs _ (fun _ _ => rfl)) (hres _ _ _), hvars _ (fun _ _ => rfl), rfl, ?_, ?_⟩, ?_⟩
    · intro b off hp
      have hin : MemPlace.cell b off ∈ before := by rw [hps]; simpa using hp
      rw [hb.frozen (hlt _ hin)]
      exact hz b off hin
    · intro ha
      have := hn ha
      rw [hps] at this
      simpa using this
    · intro p hp _
      rw [hps]
      simpa using hp

theorem trodAll_stays (hl : laidOutB P = true) {W W' : World} {sp' : Nat → Bool} : ∀ (ts : List TypeId) (vs : List Value) (ds : List (DataW H)) (ps : List MemPlace), (ts.all fun t => P.readableRec t && decide (t < P.types.size)) = true →
    DataW.TrodAll enc P W 0 (fun _ => true) true ts vs ds ps → (∀ p ∈ ps, W.sameAt W' p) → (∀ p ∈ ps, sp' p.block = true) → DataW.TrodAll enc P W' 0 sp' true ts vs ds ps
  | [], vs, ds, ps, _, h, _, _ => by
    obtain ⟨rfl, rfl, rfl⟩ := trodAll_nil h
    rfl
  | t :: ts, vs, ds, ps, ht, h, h1, h2 => by
    obtain ⟨v, vs', d, ds', p, q, rfl, rfl, rfl, ha, hb⟩ := trodAll_cons h
    simp only [List.all_cons, Bool.and_eq_true, decide_eq_true_eq] at ht
    exact ⟨p, q, WideElems.Trod_stays hl ht.1.1 ht.1.2 ha (fun x hx => h1 x (by simp [hx])) (fun x hx => h2 x (by simp [hx])),
      trodAll_stays hl ts vs' ds' q ht.2 hb (fun x hx => h1 x (by simp [hx])) (fun x hx => h2 x (by simp [hx])), rfl⟩

/-- The row's step for a law: it returned true, and nothing that was there has turned. -/
theorem post_law {f : Func} {s : ChangeSpec} {apart fresh handsOn again : Bool} {W W' : World} {args : Array Value} {ds : List (DataW H)} {before : List MemPlace} {tb : TypeId}
    (hl : laidOutB P = true) (hty : (f.params.toList.all fun t => P.readableRec t && decide (t < P.types.size)) = true) (hres : f.resultTypes = #[tb]) (htb : P.underlying tb = some .bool) (hsv : s.vars = [])
    (hW : DataW.Whole enc P f.params.toList s.vars apart W args.toList ds [] before) (hA : DataW.TrodAll enc P W 0 (fun _ => true) true f.params.toList args.toList ds before)
    (hfn : s.fn H (ds ++ []) = { results := [.lit (.bool true)], args := ds }) (hb : Below W.heap.size W W') :
    s.post enc P f apart fresh handsOn again W args (.bool true) W' := by
  have hlt : ∀ p ∈ before, p.block < W.heap.size := fun p hp => hW.lt p hp
  refine post_of_below (pa := before) (pv := []) hW ?_ ?_ ?_ (by simp) hb ?_
  · intro b sp hd
    rw [hfn, hres]
    exact trodAll_cons_mk (shut_bool htb _) trodAll_mk0
  · intro sp hsp
    rw [hfn]
    exact trodAll_stays hl _ _ _ _ hty hA (fun p hp => hb.same (hlt p hp)) hsp
  · intro sp hsp
    rw [hfn, hsv]
    rfl
  · exact ok_one hres rfl (okWide_bool_mk htb _)
end

theorem laid_prog : laidOutB Tryz.prog = true := by kernel_rfl
section
variable {H : Type} {enc : TypeId × Value → H}
end
end Go.Proofs.YtkcgdnnipohehaaGreatDoor

/- Lists in a strict order, each element once: the reference's insertion, the program's search, a sorted list without repetitions. No program is in sight. -/
namespace Go.Proofs.YtkcgdnnipohehaaGreatDoor
open Go.RowKit
set_option linter.unusedVariables false
/-- A strict total order. -/
structure STO {α : Type} (lt : α → α → Bool) : Prop where
  irr : ∀ a, lt a a = false
  trans : ∀ {a b c}, lt a b = true → lt b c = true → lt a c = true
  tot : ∀ {a b}, lt a b = false → lt b a = false → a = b
section
variable {α : Type} {lt : α → α → Bool}
abbrev IncG (lt : α → α → Bool) (l : List α) : Prop := l.Pairwise (fun a b => lt a b = true)
theorem STO.asym (h : STO lt) {a b : α} (k : lt a b = true) : lt b a = false := by
  cases hb : lt b a with
  | false => rfl
  | true => rw [← h.irr a, ← h.trans k hb]
theorem incG_eq (h : STO lt) : ∀ (a b : List α), IncG lt a → IncG lt b → (∀ x, x ∈ a ↔ x ∈ b) → a = b
  | [], [], _, _, _ => rfl
  | [], y :: t, _, _, h => absurd ((h y).2 (by simp)) (by simp)
  | x :: s, [], _, _, h => absurd ((h x).1 (by simp)) (by simp)
  | x :: s, y :: t, ha, hb, hm => by
    obtain ⟨a1, a2⟩ := List.pairwise_cons.1 ha
    obtain ⟨b1, b2⟩ := List.pairwise_cons.1 hb
    have hxy : x = y := by
      refine h.tot ?_ ?_
      · rcases List.mem_cons.1 ((hm y).2 (by simp)) with h2 | h2
        · rw [← h2]; exact h.irr _
        · cases he : lt x y with
          | false => rfl
          | true =>
            rcases List.mem_cons.1 ((hm x).1 (by simp)) with h3 | h3
            · rw [h3] at he; rw [h.irr] at he; cases he
            · have := b1 x h3; rw [h.asym this] at he; cases he
      · rcases List.mem_cons.1 ((hm y).2 (by simp)) with h2 | h2
        · rw [← h2]; exact h.irr _
        · exact h.asym (a1 y h2)
    subst hxy
    congr 1
    refine incG_eq h s t a2 b2 fun z => ⟨fun hz => ?_, fun hz => ?_⟩
    · rcases List.mem_cons.1 ((hm z).1 (by simp [hz])) with h2 | h2
      · have := a1 z hz; rw [h2, h.irr] at this; cases this
      · exact h2
    · rcases List.mem_cons.1 ((hm z).2 (by simp [hz])) with h2 | h2
      · have := b1 z hz; rw [h2, h.irr] at this; cases this
      · exact h2
/-- An element put between those that are less and those that are greater. -/
theorem ins_inc {l : List α} (h : IncG lt l) (n : α) (k : Nat) (hf : ∀ x ∈ l.take k, lt x n = true) (hb : ∀ x ∈ l.drop k, lt n x = true) :
    IncG lt (l.take k ++ [n] ++ l.drop k) ∧ ∀ x, x ∈ l.take k ++ [n] ++ l.drop k ↔ x ∈ l ∨ x = n := by
  refine ⟨?_, fun x => ?_⟩
  · rw [IncG, List.append_assoc, List.pairwise_append]
    refine ⟨List.Pairwise.sublist (List.take_sublist _ _) h, ?_, fun x hx y hy => ?_⟩
    · rw [List.singleton_append, List.pairwise_cons]
      exact ⟨hb, List.Pairwise.sublist (List.drop_sublist _ _) h⟩
    · rcases List.mem_append.1 hy with hy | hy
      · simp only [List.mem_singleton] at hy; rw [hy]; exact hf x hx
      · rw [← List.take_append_drop k l, IncG, List.pairwise_append] at h
        exact h.2.2 x hx y hy
  · simp only [List.mem_append, List.mem_singleton]
    constructor
    · rintro ((h1 | h1) | h1)
      · exact .inl (List.mem_of_mem_take h1)
      · exact .inr h1
      · exact .inl (List.mem_of_mem_drop h1)
    · rintro (h1 | h1)
      · rw [← List.take_append_drop k l] at h1
        rcases List.mem_append.1 h1 with h2 | h2
        · exact .inl (.inl h2)
        · exact .inr h2
      · exact .inl (.inr h1)
/-- In order, those that are less stand in front. -/
theorem incG_split (hO : STO lt) (n : α) : ∀ {l : List α}, IncG lt l → (∀ x ∈ l.take (l.countP fun x => lt x n), lt x n = true) ∧ (∀ x ∈ l.drop (l.countP fun x => lt x n), lt x n = false)
  | [], _ => by simp
  | a :: t, h => by
    obtain ⟨h1, h2⟩ := List.pairwise_cons.1 h
    obtain ⟨i1, i2⟩ := incG_split hO n h2
    cases ha : lt a n with
    | true =>
      have e : (a :: t).countP (fun x => lt x n) = t.countP (fun x => lt x n) + 1 := by rw [List.countP_cons, if_pos ha]
      rw [e, List.take_succ_cons, List.drop_succ_cons]
      refine ⟨fun x hx => ?_, i2⟩
      rcases List.mem_cons.1 hx with hx | hx
      · rw [hx]; exact ha
      · exact i1 x hx
    | false =>
      have hall : ∀ x ∈ t, lt x n = false := fun x hx => by
        cases hxn : lt x n with
        | false => rfl
        | true => rw [hO.trans (h1 x hx) hxn] at ha; cases ha
      have e : (a :: t).countP (fun x => lt x n) = 0 := by
        rw [List.countP_eq_zero]
        intro x hx
        rcases List.mem_cons.1 hx with hx | hx
        · rw [hx, ha]; simp
        · rw [hall x hx]; simp
      rw [e]
      refine ⟨fun x hx => by simp at hx, fun x hx => ?_⟩
      rcases List.mem_cons.1 hx with hx | hx
      · rw [hx]; exact ha
      · exact hall x hx
end
section
variable {α : Type} [Inhabited α] {lt : α → α → Bool}
/-- How many elements stay ahead of n: counted down from k. -/
def cutG (lt : α → α → Bool) (l : List α) (n : α) : Nat → Nat
  | 0 => 0
  | k + 1 => if lt n (l.getD k default) then cutG lt l n k else k + 1
def putG [DecidableEq α] (lt : α → α → Bool) (l : List α) (n : α) : List α :=
  if 0 < cutG lt l n l.length ∧ l.getD (cutG lt l n l.length - 1) default = n then l else l.take (cutG lt l n l.length) ++ [n] ++ l.drop (cutG lt l n l.length)
/-- The program's way: how many are less. -/
def putB [DecidableEq α] (lt : α → α → Bool) (l : List α) (n : α) : List α :=
  if l.countP (fun x => lt x n) < l.length ∧ l.getD (l.countP fun x => lt x n) default = n then l else l.take (l.countP fun x => lt x n) ++ [n] ++ l.drop (l.countP fun x => lt x n)
theorem cutG_le (l : List α) (n : α) (k : Nat) : cutG lt l n k ≤ k := by
  induction k with
  | zero => exact Nat.le_refl _
  | succ k ih => unfold cutG; split <;> omega
theorem cutG_above (l : List α) (n : α) : ∀ k, k ≤ l.length → ∀ i, cutG lt l n k ≤ i → i < k → lt n (l.getD i default) = true
  | 0, _, i, _, h => absurd h (by omega)
  | k + 1, hk, i, hc, hi => by
    unfold cutG at hc
    split at hc
    · next h =>
      rcases Nat.lt_or_ge i k with h1 | h1
      · exact cutG_above l n k (by omega) i hc h1
      · obtain rfl : i = k := by omega
        exact h
    · omega
theorem cutG_at (l : List α) (n : α) : ∀ k, 0 < cutG lt l n k → lt n (l.getD (cutG lt l n k - 1) default) = false
  | 0, h => absurd h (by simp [cutG])
  | k + 1, h => by
    unfold cutG at h ⊢
    split
    · next h1 => rw [if_pos h1] at h; exact cutG_at l n k h
    · next h1 => simpa using h1
theorem incG_get (hO : STO lt) {l : List α} (h : IncG lt l) {i j : Nat} (hij : i < j) (hj : j < l.length) : lt (l.getD i default) (l.getD j default) = true := by
  rw [IncG, List.pairwise_iff_getElem] at h
  have := h i j (by omega) hj hij
  simpa [List.getD_eq_getElem?_getD, hj, show i < l.length by omega] using this
theorem getD_mem {l : List α} {i : Nat} (h : i < l.length) : l.getD i default ∈ l := by
  rw [List.getD_eq_getElem?_getD, List.getElem?_eq_getElem h]; exact List.getElem_mem _
theorem putG_inc [DecidableEq α] (hO : STO lt) {l : List α} (h : IncG lt l) (n : α) : IncG lt (putG lt l n) ∧ ∀ x, x ∈ putG lt l n ↔ x ∈ l ∨ x = n := by
  unfold putG
  have hk := cutG_le (lt := lt) l n l.length
  have ha := cutG_above (lt := lt) l n l.length (Nat.le_refl _)
  have hat := cutG_at (lt := lt) l n l.length
  generalize cutG lt l n l.length = k at hk ha hat
  split
  · next hc =>
    refine ⟨h, fun x => ⟨.inl, fun hx => ?_⟩⟩
    rcases hx with hx | rfl
    · exact hx
    · rw [← hc.2]; exact getD_mem (by omega)
  · next hc =>
    have hlt : 0 < k → lt (l.getD (k - 1) default) n = true := fun h0 => by
      cases he : lt (l.getD (k - 1) default) n with
      | true => rfl
      | false => exact absurd ⟨h0, hO.tot he (hat h0)⟩ hc
    refine ins_inc h n k (fun x hx => ?_) (fun x hx => ?_)
    · obtain ⟨i, hi, rfl⟩ := List.mem_iff_getElem.1 hx
      rw [List.length_take] at hi
      rw [List.getElem_take]
      have h1 := hlt (by omega)
      have e : l[i]'(by omega) = l.getD i default := by rw [List.getD_eq_getElem?_getD, List.getElem?_eq_getElem (by omega)]; rfl
      rw [e]
      rcases Nat.lt_or_ge i (k - 1) with h2 | h2
      · exact hO.trans (incG_get hO h h2 (by omega)) h1
      · obtain rfl : i = k - 1 := by omega
        exact h1
    · obtain ⟨i, hi, rfl⟩ := List.mem_iff_getElem.1 hx
      rw [List.length_drop] at hi
      rw [List.getElem_drop]
      have := ha (k + i) (by omega) (by omega)
      rwa [List.getD_eq_getElem?_getD, List.getElem?_eq_getElem (by omega)] at this
theorem putB_inc [DecidableEq α] (hO : STO lt) {l : List α} (h : IncG lt l) (n : α) : IncG lt (putB lt l n) ∧ ∀ x, x ∈ putB lt l n ↔ x ∈ l ∨ x = n := by
  unfold putB
  obtain ⟨h1, h2⟩ := incG_split hO n h
  have hk : l.countP (fun x => lt x n) ≤ l.length := List.countP_le_length
  generalize l.countP (fun x => lt x n) = k at h1 h2 hk
  split
  · next hc =>
    refine ⟨h, fun x => ⟨.inl, fun hx => ?_⟩⟩
    rcases hx with hx | rfl
    · exact hx
    · rw [← hc.2]; exact getD_mem hc.1
  · next hc =>
    refine ins_inc h n k h1 fun x hx => ?_
    cases hnx : lt n x with
    | true => rfl
    | false =>
      have e : x = n := hO.tot (h2 x hx) hnx
      exfalso
      apply hc
      have hkl : k < l.length := by
        rcases Nat.lt_or_ge k l.length with hl | hl
        · exact hl
        · rw [List.drop_of_length_le hl] at hx; cases hx
      refine ⟨hkl, ?_⟩
      have e0 : l.getD k default = l[k] := by rw [List.getD_eq_getElem?_getD, List.getElem?_eq_getElem hkl]; rfl
      rw [e0]
      rw [List.drop_eq_getElem_cons hkl] at hx
      rcases List.mem_cons.1 hx with hx | hx
      · rw [← e]; exact hx.symm
      · obtain ⟨i, hi, hxi⟩ := List.mem_iff_getElem.1 hx
        rw [List.length_drop] at hi
        rw [List.getElem_drop] at hxi
        rw [IncG, List.pairwise_iff_getElem] at h
        have := h k (k + 1 + i) hkl (by omega) (by omega)
        rw [hxi, e] at this
        have hk2 := h2 l[k] (by rw [List.drop_eq_getElem_cons hkl]; exact List.mem_cons_self)
        rw [this] at hk2
        cases hk2
theorem putB_eq [DecidableEq α] (hO : STO lt) {l : List α} (h : IncG lt l) (n : α) : putB lt l n = putG lt l n := by
  obtain ⟨a1, a2⟩ := putB_inc hO h n
  obtain ⟨b1, b2⟩ := putG_inc hO h n
  exact incG_eq hO _ _ a1 b1 fun x => by rw [a2, b2]
theorem foldlG_inc [DecidableEq α] (hO : STO lt) : ∀ (l acc : List α), IncG lt acc → IncG lt (l.foldl (putG lt) acc) ∧ ∀ x, x ∈ l.foldl (putG lt) acc ↔ x ∈ acc ∨ x ∈ l
  | [], acc, h => ⟨h, fun x => by simp⟩
  | a :: t, acc, h => by
    obtain ⟨h1, h2⟩ := putG_inc hO h a
    obtain ⟨h3, h4⟩ := foldlG_inc hO t (putG lt acc a) h1
    refine ⟨h3, fun x => ?_⟩
    rw [List.foldl_cons, h4, h2, List.mem_cons]
    constructor
    · rintro ((h | h) | h)
      · exact .inl h
      · exact .inr (.inl h)
      · exact .inr (.inr h)
    · rintro (h | h | h)
      · exact .inl (.inl h)
      · exact .inl (.inr h)
      · exact .inr h
/-- The reference's way: each put in its place. -/
def sortG [DecidableEq α] (lt : α → α → Bool) (l : List α) : List α := l.foldl (putG lt) []
theorem sortG_inc [DecidableEq α] (hO : STO lt) (l : List α) : IncG lt (sortG lt l) ∧ ∀ x, x ∈ sortG lt l ↔ x ∈ l := by
  obtain ⟨h1, h2⟩ := foldlG_inc hO l [] List.Pairwise.nil
  exact ⟨h1, fun x => by rw [sortG, h2]; simp⟩
/-- The program's way: sorted, then each but once. -/
def keepG [DecidableEq α] (s : List α) (i : Nat) : Bool := i == 0 || s.getD (i - 1) default != s.getD i default
def dedG [DecidableEq α] (s : List α) : Nat → List α
  | 0 => []
  | k + 1 => dedG s k ++ (if keepG s k then [s.getD k default] else [])
theorem dedG_all [DecidableEq α] (hO : STO lt) {s : List α} (hs : s.Pairwise (fun a b => lt b a = false)) : ∀ k, k ≤ s.length → IncG lt (dedG s k) ∧ (∀ x, x ∈ dedG s k ↔ x ∈ s.take k) ∧ ∀ x ∈ dedG s k, 0 < k ∧ lt (s.getD (k - 1) default) x = false
  | 0, _ => ⟨List.Pairwise.nil, fun x => by simp [dedG], fun x hx => by simp [dedG] at hx⟩
  | k + 1, hk => by
    obtain ⟨h1, h2, h3⟩ := dedG_all hO hs k (by omega)
    have hkl : k < s.length := by omega
    have hg : s.getD k default = s[k] := by rw [List.getD_eq_getElem?_getD, List.getElem?_eq_getElem hkl]; rfl
    have hmono : 0 < k → lt (s.getD k default) (s.getD (k - 1) default) = false := fun h0 => by
      rw [List.pairwise_iff_getElem] at hs
      have := hs (k - 1) k (by omega) hkl (by omega)
      rw [hg, List.getD_eq_getElem?_getD, List.getElem?_eq_getElem (by omega)]
      exact this
    -- what is not above the last one is not above the next
    have hnext : ∀ x, 0 < k → lt (s.getD (k - 1) default) x = false → lt (s.getD k default) x = false := fun x h0 hx => by
      cases he : lt (s.getD k default) x with
      | false => rfl
      | true =>
        exfalso
        have hm := hmono h0
        cases hy : lt (s.getD (k - 1) default) (s.getD k default) with
        | true => rw [hO.trans hy he] at hx; cases hx
        | false => rw [hO.tot hy hm] at hx; rw [hx] at he; cases he
    unfold dedG
    rw [List.take_succ_eq_append_getElem hkl]
    cases hka : keepG s k with
    | true =>
      rw [if_pos rfl, hg]
      refine ⟨?_, fun x => ?_, fun x hx => ⟨by omega, ?_⟩⟩
      · rw [IncG, List.pairwise_append]
        refine ⟨h1, by simp, fun x hx y hy => ?_⟩
        simp only [List.mem_singleton] at hy
        subst hy
        obtain ⟨h0, hle⟩ := h3 x hx
        have hm := hnext x h0 hle
        rw [hg] at hm
        cases hc : lt x s[k] with
        | true => rfl
        | false =>
          exfalso
          have e : x = s[k] := hO.tot hc hm
          simp only [keepG, Bool.or_eq_true, beq_iff_eq, bne_iff_ne, ne_eq] at hka
          rcases hka with h | h
          · omega
          · apply h
            refine hO.tot ?_ (hmono h0)
            rw [hg, ← e]
            exact hle
      · simp only [List.mem_append, h2 x]
      · simp only [Nat.add_sub_cancel]
        rcases List.mem_append.1 hx with hx | hx
        · obtain ⟨h0, hle⟩ := h3 x hx
          exact hnext x h0 hle
        · simp only [List.mem_singleton] at hx
          rw [hx, hg]
          exact hO.irr _
    | false =>
      simp only [Bool.false_eq_true, if_false, List.append_nil]
      simp only [keepG, Bool.or_eq_false_iff, beq_eq_false_iff_ne, bne_eq_false_iff_eq, ne_eq] at hka
      refine ⟨h1, fun x => ?_, fun x hx => ⟨by omega, ?_⟩⟩
      · rw [h2 x, List.mem_append, List.mem_singleton]
        refine ⟨.inl, fun h => ?_⟩
        rcases h with h | h
        · exact h
        · rw [h, ← hg, ← hka.2, List.getD_eq_getElem?_getD, List.getElem?_eq_getElem (by omega)]
          simp only [Option.getD_some]
          rw [List.mem_iff_getElem]
          exact ⟨k - 1, by rw [List.length_take]; omega, by rw [List.getElem_take]⟩
      · obtain ⟨h0, hle⟩ := h3 x hx
        exact hnext x h0 hle
/-- A sorted list of the same elements, without repetitions, is the reference's. -/
theorem dedG_eq [DecidableEq α] (hO : STO lt) {s l : List α} (hs : s.Pairwise (fun a b => lt b a = false)) (hm : ∀ x, x ∈ s ↔ x ∈ l) : dedG s s.length = sortG lt l := by
  obtain ⟨h1, h2, _⟩ := dedG_all hO hs s.length (Nat.le_refl _)
  obtain ⟨h3, h4⟩ := sortG_inc hO l
  refine incG_eq hO _ _ h1 h3 fun x => ?_
  rw [h2, h4, List.take_length, hm]
theorem putG_len [DecidableEq α] (l : List α) (n : α) : (putG lt l n).length ≤ l.length + 1 := by
  unfold putG
  split
  · omega
  · simp only [List.length_append, List.length_take, List.length_drop, List.length_cons, List.length_nil]; omega
theorem foldlG_len [DecidableEq α] (l acc : List α) : (l.foldl (putG lt) acc).length ≤ acc.length + l.length := by
  induction l generalizing acc with
  | nil => simp
  | cons a t ih =>
    rw [List.foldl_cons]
    have := ih (putG lt acc a)
    have := putG_len (lt := lt) acc a
    simp only [List.length_cons]
    omega
theorem sortG_len [DecidableEq α] (l : List α) : (sortG lt l).length ≤ l.length := by
  have := foldlG_len (lt := lt) l []
  simpa [sortG] using this
theorem putG_same [DecidableEq α] {l : List α} {n : α} {k : Nat} (hk : cutG lt l n l.length = k) (h0 : 0 < k) (h1 : l.getD (k - 1) default = n) : putG lt l n = l := by unfold putG; rw [hk, if_pos ⟨h0, h1⟩]
theorem putG_new [DecidableEq α] {l : List α} {n : α} {k : Nat} (hk : cutG lt l n l.length = k) (h1 : ¬ (0 < k ∧ l.getD (k - 1) default = n)) : putG lt l n = l.take k ++ [n] ++ l.drop k := by unfold putG; rw [hk, if_neg h1]
theorem sortG_id [DecidableEq α] (hO : STO lt) {a : List α} (h : IncG lt a) : sortG lt a = a := by
  obtain ⟨h1, h2⟩ := sortG_inc hO a
  exact incG_eq hO _ _ h1 h fun x => by rw [h2]
end
end Go.Proofs.YtkcgdnnipohehaaGreatDoor

/- Plain functions on cells: the board, neighbours, growth. No program is in sight. -/
namespace Go.Proofs.YtkcgdnnipohehaaGreatDoor
open Go.RowKit
set_option linter.unusedVariables false

def hasC (s : List C) (x y : Int) : Bool := s.any fun c => c.1 == x && c.2 == y
def onB (c : C) : Bool := (decide (0 ≤ c.1) && decide (c.1 ≤ 7)) && (decide (0 ≤ c.2) && decide (c.2 ≤ 7))
/-- Two cells have a side in common: as the reference reckons it, as the program does. -/
def nearS (a b : C) : Bool := wrap64 (wrap64 (wrap64 (a.1 - b.1) * wrap64 (a.1 - b.1)) + wrap64 (wrap64 (a.2 - b.2) * wrap64 (a.2 - b.2))) == 1
def nearI (a b : C) : Bool :=
  wrap64 ((if wrap64 (a.1 - b.1) < wrap64 (b.1 - a.1) then wrap64 (b.1 - a.1) else wrap64 (a.1 - b.1)) + (if wrap64 (a.2 - b.2) < wrap64 (b.2 - a.2) then wrap64 (b.2 - a.2) else wrap64 (a.2 - b.2))) == 1
def near (a b : C) : Bool := decide ((a.1 - b.1).natAbs + (a.2 - b.2).natAbs = 1)
def small (c : C) : Prop := (-1000 ≤ c.1 ∧ c.1 ≤ 1000) ∧ (-1000 ≤ c.2 ∧ c.2 ≤ 1000)
theorem small_of_onB {c : C} (h : onB c = true) : small c := by
  simp [onB] at h
  unfold small
  omega
theorem near_symm (a b : C) : near a b = near b a := by
  unfold near
  congr 1
  simp only [eq_iff_iff]
  omega
theorem nearI_eq {a b : C} (ha : small a) (hb : small b) : nearI a b = near a b := by
  unfold small at ha hb
  unfold nearI near
  rw [IntWalk.wrap64_in (a.1 - b.1) (by omega), IntWalk.wrap64_in (b.1 - a.1) (by omega), IntWalk.wrap64_in (a.2 - b.2) (by omega), IntWalk.wrap64_in (b.2 - a.2) (by omega)]
  rw [IntWalk.wrap64_in _ (by split <;> split <;> omega)]
  rw [Bool.eq_iff_iff, beq_iff_eq, decide_eq_true_eq]
  split <;> split <;> omega
theorem sq_small (d : Int) (h : -2000 ≤ d ∧ d ≤ 2000) : 0 ≤ d * d ∧ d * d ≤ 4000000 := by
  refine ⟨by rcases Int.le_total 0 d with h0 | h0; exact Int.mul_nonneg h0 h0; exact Int.mul_nonneg_of_nonpos_of_nonpos h0 h0, ?_⟩
  have h1 : d * d ≤ 2000 * 2000 := by
    rcases Int.le_total 0 d with h0 | h0
    · exact Int.mul_le_mul h.2 h.2 h0 (by omega)
    · have := Int.mul_le_mul (a := -d) (b := -d) (c := 2000) (d := 2000) (by omega) (by omega) (by omega) (by omega)
      rwa [Int.neg_mul_neg] at this
  omega
theorem sq_cases (d : Int) : d * d = 0 ∧ d = 0 ∨ d * d = 1 ∧ (d = 1 ∨ d = -1) ∨ 2 ≤ d * d ∧ (2 ≤ d ∨ d ≤ -2) := by
  rcases (by omega : d = 0 ∨ d = 1 ∨ d = -1 ∨ 2 ≤ d ∨ d ≤ -2) with h | h | h | h | h
  · left; subst h; simp
  · right; left; subst h; simp
  · right; left; subst h; simp
  · right; right
    have := Int.mul_le_mul (a := 2) (b := 2) (c := d) (d := d) h h (by omega) (by omega)
    omega
  · right; right
    have := Int.mul_le_mul (a := 2) (b := 2) (c := -d) (d := -d) (by omega) (by omega) (by omega) (by omega)
    rw [Int.neg_mul_neg] at this
    omega
theorem nearS_eq {a b : C} (ha : small a) (hb : small b) : nearS a b = near a b := by
  unfold small at ha hb
  unfold nearS near
  have h1 := sq_small (a.1 - b.1) (by omega)
  have h2 := sq_small (a.2 - b.2) (by omega)
  rw [IntWalk.wrap64_in (a.1 - b.1) (by omega), IntWalk.wrap64_in (a.2 - b.2) (by omega)]
  rw [IntWalk.wrap64_in ((a.1 - b.1) * (a.1 - b.1)) (by omega), IntWalk.wrap64_in ((a.2 - b.2) * (a.2 - b.2)) (by omega)]
  rw [IntWalk.wrap64_in _ (by omega)]
  rw [Bool.eq_iff_iff, beq_iff_eq, decide_eq_true_eq]
  have c1 := sq_cases (a.1 - b.1)
  have c2 := sq_cases (a.2 - b.2)
  omega
def touchI (l : List C) (c : C) : Bool := l.any fun d => nearI c d
def touchS (l : List C) (c : C) : Bool := l.any fun d => nearS d c
def touch (l : List C) (c : C) : Bool := l.any fun d => near c d
theorem any_take {α : Type} (p : α → Bool) (xs : List α) (k : Nat) (hk : k < xs.length) : (xs.take (k + 1)).any p = ((xs.take k).any p || p xs[k]) := by
  rw [List.take_succ_eq_append_getElem hk, List.any_append]
  simp
theorem any_full {α : Type} (p : α → Bool) (xs : List α) (k : Nat) (hk : k < xs.length) (h : p xs[k] = true) : xs.any p = true := by
  rw [List.any_eq_true]; exact ⟨_, List.getElem_mem hk, h⟩

/-- The k-th cell may grow on those before it. -/
def growAt (l : List C) (k : Nat) (c : C) : Bool := onB c && !hasC (l.take k) c.1 c.2 && (k == 0 || touch (l.take k) c)
def growTo (l : List C) (k : Nat) : Bool := (List.range k).all fun i => growAt l i (l.getD i (0, 0))
def isGrowth (l : List C) : Bool := growTo l l.length && (decide (1 ≤ l.length) && decide (l.length ≤ 8))
end Go.Proofs.YtkcgdnnipohehaaGreatDoor

/- Plain functions on cells: shapes, connected shapes. No program is in sight. -/
namespace Go.Proofs.YtkcgdnnipohehaaGreatDoor
open Go.RowKit
set_option linter.unusedVariables false

def befC (a b : C) : Bool := decide (a.2 < b.2) || (a.2 == b.2 && decide (a.1 < b.1))
theorem befC_trans {a b c : C} (h : befC a b = true) (k : befC b c = true) : befC a c = true := by
  simp only [befC, Bool.or_eq_true, Bool.and_eq_true, decide_eq_true_eq, beq_iff_eq] at *
  omega
theorem befC_irr (a : C) : befC a a = false := by simp [befC]
/-- The k-th cell of a list is on the board and behind the one before it. -/
def shapeAt (l : List C) (k : Nat) (c : C) : Bool := onB c && (k == 0 || befC (l.getD (k - 1) (0, 0)) c)
def shapeTo (l : List C) (k : Nat) : Bool := (List.range k).all fun i => shapeAt l i (l.getD i (0, 0))
def isShape (l : List C) : Bool := shapeTo l l.length && (decide (1 ≤ l.length) && decide (l.length ≤ 8))
theorem shapeTo_succ (l : List C) (k : Nat) (hk : k < l.length) : shapeTo l (k + 1) = (shapeTo l k && shapeAt l k l[k]) := by
  unfold shapeTo
  rw [List.range_succ, List.all_append]
  simp [List.getD_eq_getElem?_getD, hk]
theorem shapeTo_at {l : List C} {k : Nat} (h : shapeTo l k = true) {i : Nat} (hi : i < k) (hl : i < l.length) : shapeAt l i l[i] = true := by
  unfold shapeTo at h
  rw [List.all_eq_true] at h
  have := h i (by simp; omega)
  rwa [List.getD_eq_getElem?_getD, List.getElem?_eq_getElem hl] at this
theorem isShape_no (l : List C) (k : Nat) (hk : k < l.length) (h : shapeAt l k l[k] = false) : isShape l = false := by
  have : shapeTo l l.length = false := by
    rw [Bool.eq_false_iff]
    intro ht
    rw [shapeTo_at ht hk hk] at h
    cases h
  unfold isShape
  rw [this]
  rfl
theorem shape_len {l : List C} (h : isShape l = true) : 1 ≤ l.length ∧ l.length ≤ 8 := by
  simp only [isShape, Bool.and_eq_true, decide_eq_true_eq] at h
  exact h.2
theorem shape_to {l : List C} (h : isShape l = true) : shapeTo l l.length = true := by
  simp only [isShape, Bool.and_eq_true, decide_eq_true_eq] at h
  exact h.1
theorem shape_onB {l : List C} (h : isShape l = true) : ∀ c ∈ l, onB c = true := by
  intro c hc
  obtain ⟨i, hi, rfl⟩ := List.mem_iff_getElem.1 hc
  have := shapeTo_at (shape_to h) hi hi
  simp only [shapeAt, Bool.and_eq_true] at this
  exact this.1
theorem shape_small {l : List C} (h : isShape l = true) : ∀ c ∈ l, small c := fun c hc => small_of_onB (shape_onB h c hc)
theorem shape_bef {l : List C} (h : isShape l = true) : ∀ j i (hj : j < l.length) (hi : i < j), befC (l[i]'(by omega)) l[j] = true := by
  intro j
  induction j with
  | zero => intro i _ hi; omega
  | succ j ih =>
    intro i hj hi
    have h1 := shapeTo_at (shape_to h) hj hj
    simp only [shapeAt, Bool.and_eq_true] at h1
    have h2 := h1.2
    rw [show (j + 1 == 0) = false from rfl, Bool.false_or, show j + 1 - 1 = j from rfl, List.getD_eq_getElem?_getD, List.getElem?_eq_getElem (by omega : j < l.length)] at h2
    rcases Nat.lt_or_ge i j with h3 | h3
    · exact befC_trans (ih i (by omega) h3) h2
    · obtain rfl : i = j := by omega
      exact h2
theorem shape_nodup {l : List C} (h : isShape l = true) : l.Nodup := by
  rw [List.Nodup, List.pairwise_iff_getElem]
  intro i j hi hj hij he
  have := shape_bef h j i hj hij
  rw [he, befC_irr] at this
  cases this

/-- What is reached from a cell by steps within a list. -/
inductive Rch (s : List C) (a : C) : C → Prop
  | base : Rch s a a
  | step {b c : C} : Rch s a b → c ∈ s → near b c = true → Rch s a c
def s0 (s : List C) : C := s.getD 0 (0, 0)
noncomputable def conn (s : List C) : Bool := @decide (∀ c ∈ s, Rch s (s0 s) c) (Classical.propDecidable _)
theorem conn_iff (s : List C) : conn s = true ↔ ∀ c ∈ s, Rch s (s0 s) c := by
  unfold conn
  exact @decide_eq_true_iff _ (Classical.propDecidable _)
theorem nodup_len {α : Type} [DecidableEq α] : ∀ (l m : List α), l.Nodup → (∀ x ∈ l, x ∈ m) → l.length ≤ m.length := by
  intro l
  induction l with
  | nil => intro m _ _; simp
  | cons a t ih =>
    intro m hn hs
    have ha := hs a (by simp)
    have h1 := ih (m.erase a) (List.nodup_cons.1 hn).2 (fun x hx => (List.mem_erase_of_ne (by rintro rfl; exact (List.nodup_cons.1 hn).1 hx)).2 (hs x (by simp [hx])))
    rw [List.length_erase_of_mem ha] at h1
    have : 0 < m.length := List.length_pos_of_mem ha
    simp only [List.length_cons]
    omega
theorem nodup_full {α : Type} [DecidableEq α] (l m : List α) (hl : l.Nodup) (hs : ∀ x ∈ l, x ∈ m) (he : l.length = m.length) : ∀ x ∈ m, x ∈ l := by
  intro x hx
  rcases Decidable.em (x ∈ l) with h | h
  · exact h
  · have := nodup_len (x :: l) m (List.nodup_cons.2 ⟨h, hl⟩) (fun y hy => by
      rcases List.mem_cons.1 hy with rfl | hy
      · exact hx
      · exact hs y hy)
    simp only [List.length_cons] at this
    omega
theorem nodup_inj {α : Type} {l : List α} (h : l.Nodup) {i j : Nat} (hi : i < l.length) (hj : j < l.length) (he : l[i] = l[j]) : i = j := by
  rw [List.Nodup, List.pairwise_iff_getElem] at h
  rcases Nat.lt_trichotomy i j with h1 | h1 | h1
  · exact absurd he (h i j hi hj h1)
  · exact h1
  · exact absurd he.symm (h j i hj hi h1)
/-- Connectedness as the reference finds it: the list of all that was seen is closed. -/
theorem conn_of_list (s seen : List C) (h0 : s0 s ∈ seen) (hsub : ∀ c ∈ seen, c ∈ s) (hnd : seen.Nodup) (hs : s.Nodup) (hr : ∀ c ∈ seen, Rch s (s0 s) c)
    (hcl : ∀ b ∈ seen, ∀ c ∈ s, near b c = true → c ∈ seen) : conn s = decide (seen.length = s.length) := by
  rw [Bool.eq_iff_iff, conn_iff, decide_eq_true_eq]
  constructor
  · intro h
    have all : ∀ c, Rch s (s0 s) c → c ∈ seen := by
      intro c hc
      induction hc with
      | base => exact h0
      | step _ hc hn ih => exact hcl _ ih _ hc hn
    have h1 := nodup_len s seen hs (fun c hc => all c (h c hc))
    have h2 := nodup_len seen s hnd hsub
    omega
  · intro h c hc
    exact hr c (nodup_full seen s hnd hsub h c hc)
/-- As the program finds it: the marks are closed. -/
def cnt (fl : List Bool) : Nat := fl.count true
theorem conn_of_marks (s : List C) (fl : List Bool) (hl : fl.length = s.length) (h0 : fl[0]? = some true) (hnd : s.Nodup)
    (hin : ∀ i (h : i < s.length), fl[i]? = some true → Rch s (s0 s) s[i])
    (hcl : ∀ i j (hi : i < s.length) (hj : j < s.length), fl[i]? = some true → near s[i] s[j] = true → fl[j]? = some true) : conn s = decide (cnt fl = s.length) := by
  have hpos : 0 < s.length := by
    rw [← hl]
    rcases Nat.eq_zero_or_pos fl.length with h | h
    · rw [List.getElem?_eq_none (by omega)] at h0; cases h0
    · exact h
  rw [Bool.eq_iff_iff, conn_iff, decide_eq_true_eq]
  unfold cnt
  rw [← hl, List.count_eq_length]
  constructor
  · intro h
    have all : ∀ c, Rch s (s0 s) c → ∃ i, ∃ h : i < s.length, s[i] = c ∧ fl[i]? = some true := by
      intro c hc
      induction hc with
      | base => exact ⟨0, hpos, by simp [s0, List.getD_eq_getElem?_getD, hpos], h0⟩
      | step _ hc hn ih =>
        obtain ⟨i, hi, rfl, hf⟩ := ih
        obtain ⟨j, hj, rfl⟩ := List.mem_iff_getElem.1 hc
        exact ⟨j, hj, rfl, hcl i j hi hj hf hn⟩
    intro b hb
    obtain ⟨j, hj, rfl⟩ := List.mem_iff_getElem.1 hb
    obtain ⟨i, hi, he, hf⟩ := all (s[j]'(by omega)) (h _ (List.getElem_mem _))
    obtain rfl := nodup_inj hnd hi (by omega) he
    rw [List.getElem?_eq_getElem hj] at hf
    injection hf with hf
    exact hf.symm
  · intro h c hc
    obtain ⟨i, hi, rfl⟩ := List.mem_iff_getElem.1 hc
    refine hin i hi ?_
    rw [List.getElem?_eq_getElem (by omega)]
    rw [← h _ (List.getElem_mem (by omega : i < fl.length))]
theorem cnt_set (fl : List Bool) (j : Nat) (h : fl[j]? = some false) : cnt (fl.set j true) = cnt fl + 1 := by
  unfold cnt
  induction fl generalizing j with
  | nil => simp at h
  | cons a t ih =>
    cases j with
    | zero =>
      simp at h
      subst h
      simp
    | succ j =>
      simp at h
      simp only [List.set_cons_succ, List.count_cons, ih j h]
      omega
theorem cnt_le (fl : List Bool) : cnt fl ≤ fl.length := List.count_le_length
end Go.Proofs.YtkcgdnnipohehaaGreatDoor

/- Cells in order, shapes in order, corners: plain functions. No program is in sight. -/
namespace Go.Proofs.YtkcgdnnipohehaaGreatDoor
open Go.RowKit
set_option linter.unusedVariables false
theorem befC_sto : STO befC where
  irr := befC_irr
  trans := fun h k => befC_trans h k
  tot := fun {a b} h k => by
    simp only [befC, Bool.or_eq_false_iff, Bool.and_eq_false_iff, decide_eq_false_iff_not, beq_eq_false_iff_ne] at h k
    refine Prod.ext ?_ ?_
    · rcases h.2 with h2 | h2
      · omega
      · rcases k.2 with k2 | k2 <;> omega
    · omega
/-- Lists of cells, by the first place where they differ. -/
def lexC : List C → List C → Bool
  | a :: s, b :: t => befC a b || (a == b && lexC s t)
  | _, _ => false
def ltS (s t : List C) : Bool := decide (s.length < t.length) || (s.length == t.length && lexC s t)
def cmpS (s t : List C) : Int := if ltS s t then -1 else if ltS t s then 1 else 0
theorem lexC_irr : ∀ s, lexC s s = false
  | [] => rfl
  | a :: s => by simp [lexC, befC_irr, lexC_irr s]
theorem lexC_trans : ∀ {a b c : List C}, lexC a b = true → lexC b c = true → lexC a c = true
  | [], _, _, h, _ => by simp [lexC] at h
  | _ :: _, [], _, h, _ => by simp [lexC] at h
  | _ :: _, _ :: _, [], _, h => by simp [lexC] at h
  | a :: s, b :: t, c :: u, h, k => by
    simp only [lexC, Bool.or_eq_true, Bool.and_eq_true, beq_iff_eq] at h k ⊢
    rcases h with h | ⟨rfl, h⟩
    · rcases k with k | ⟨rfl, k⟩
      · exact .inl (befC_trans h k)
      · exact .inl h
    · rcases k with k | ⟨rfl, k⟩
      · exact .inl k
      · exact .inr ⟨rfl, lexC_trans h k⟩
theorem lexC_tot : ∀ {a b : List C}, a.length = b.length → lexC a b = false → lexC b a = false → a = b
  | [], [], _, _, _ => rfl
  | [], _ :: _, h, _, _ => by simp at h
  | _ :: _, [], h, _, _ => by simp at h
  | a :: s, b :: t, hl, h, k => by
    simp only [lexC, Bool.or_eq_false_iff, Bool.and_eq_false_iff, beq_eq_false_iff_ne] at h k
    have e : a = b := befC_sto.tot h.1 k.1
    subst e
    rcases h.2 with h2 | h2
    · exact absurd rfl h2
    · rcases k.2 with k2 | k2
      · exact absurd rfl k2
      · rw [lexC_tot (by simpa using hl) h2 k2]
theorem ltS_sto : STO ltS where
  irr := fun a => by simp [ltS, lexC_irr]
  trans := fun {a b c} h k => by
    simp only [ltS, Bool.or_eq_true, Bool.and_eq_true, decide_eq_true_eq, beq_iff_eq] at h k ⊢
    rcases h with h | ⟨h1, h2⟩
    · left
      rcases k with k | k <;> omega
    · rcases k with k | ⟨k1, k2⟩
      · left; omega
      · exact .inr ⟨by omega, lexC_trans h2 k2⟩
  tot := fun {a b} h k => by
    simp only [ltS, Bool.or_eq_false_iff, Bool.and_eq_false_iff, decide_eq_false_iff_not, beq_eq_false_iff_ne] at h k
    have hl : a.length = b.length := by omega
    rcases h.2 with h2 | h2
    · exact absurd hl h2
    · rcases k.2 with k2 | k2
      · exact absurd hl.symm k2
      · exact lexC_tot hl h2 k2
theorem cmpS_neg (s t : List C) : decide (cmpS s t ≥ 0) = !ltS s t := by
  unfold cmpS
  cases ltS s t with
  | true => rfl
  | false =>
    simp only [Bool.false_eq_true, if_false]
    split <;> rfl
/-- From place k on. -/
theorem cmpS_len {s t : List C} (h : s.length < t.length) : cmpS s t = -1 := by
  unfold cmpS ltS
  rw [decide_eq_true h]
  rfl
theorem cmpS_len2 {s t : List C} (h : t.length < s.length) : cmpS s t = 1 := by
  have h1 : ltS s t = false := by simp only [ltS, Bool.or_eq_false_iff, Bool.and_eq_false_iff, decide_eq_false_iff_not, beq_eq_false_iff_ne]; omega
  have h2 : ltS t s = true := by unfold ltS; rw [decide_eq_true h]; rfl
  unfold cmpS
  rw [h1, h2]
  rfl
theorem cmpS_at {s t : List C} (hl : s.length = t.length) {k : Nat} (hk : k < s.length) (heq : s.take k = t.take k) (a b : C) (ha : s[k] = a) (hb : t[k]'(hl ▸ hk) = b) :
    (befC a b = true → cmpS s t = -1) ∧ (befC b a = true → cmpS s t = 1) := by
  have hlex : ∀ (k : Nat) (s t : List C) (hk : k < s.length) (hk2 : k < t.length), s.take k = t.take k → befC s[k] t[k] = true → lexC s t = true := by
    intro k
    induction k with
    | zero =>
      intro s t hk hk2 _ h
      cases s with
      | nil => simp at hk
      | cons x s =>
        cases t with
        | nil => simp at hk2
        | cons y t => simp only [List.getElem_cons_zero] at h; simp [lexC, h]
    | succ k ih =>
      intro s t hk hk2 he h
      cases s with
      | nil => simp at hk
      | cons x s =>
        cases t with
        | nil => simp at hk2
        | cons y t =>
          simp only [List.take_succ_cons, List.cons.injEq] at he
          simp only [List.getElem_cons_succ] at h
          simp only [lexC, Bool.or_eq_true, Bool.and_eq_true, beq_iff_eq]
          exact .inr ⟨he.1, ih s t (by simpa using hk) (by simpa using hk2) he.2 h⟩
  refine ⟨fun h => ?_, fun h => ?_⟩
  · have h1 : ltS s t = true := by
      unfold ltS
      rw [hlex k s t hk (hl ▸ hk) heq (by rw [ha, hb]; exact h)]
      simp [hl]
    unfold cmpS
    rw [h1]
    rfl
  · have h1 : ltS t s = true := by
      unfold ltS
      rw [hlex k t s (hl ▸ hk) hk heq.symm (by rw [ha, hb]; exact h)]
      simp [hl]
    unfold cmpS
    rw [h1, ltS_sto.asym h1]
    rfl
theorem cmpS_eq (s : List C) : cmpS s s = 0 := by
  unfold cmpS
  rw [ltS_sto.irr]
  rfl
theorem take_eq_step {α : Type} {s t : List α} {k : Nat} (hk : k < s.length) (hk2 : k < t.length) (h : s.take k = t.take k) (he : s[k] = t[k]) : s.take (k + 1) = t.take (k + 1) := by
  rw [List.take_succ_eq_append_getElem hk, List.take_succ_eq_append_getElem hk2, h, he]
theorem take_eq_all {α : Type} {s t : List α} (hl : s.length = t.length) {k : Nat} (hk : s.length ≤ k) (h : s.take k = t.take k) : s = t := by
  rwa [List.take_of_length_le hk, List.take_of_length_le (by omega)] at h
/-- The least number of a list, that is not empty, from its first element on. -/
def minTo (f : C → Int) (s : List C) : Nat → Int
  | 0 => f (s.getD 0 default)
  | k + 1 => if f (s.getD k default) < minTo f s k then f (s.getD k default) else minTo f s k
def minC (f : C → Int) (s : List C) : Int := minTo f s s.length
theorem minTo_le (f : C → Int) (s : List C) : ∀ k, k ≤ s.length → ∀ c ∈ s.take k, minTo f s k ≤ f c
  | 0, _, c, h => by simp at h
  | k + 1, hk, c, h => by
    have hkl : k < s.length := by omega
    rw [List.take_succ_eq_append_getElem hkl] at h
    have e : s.getD k default = s[k] := by rw [List.getD_eq_getElem?_getD, List.getElem?_eq_getElem hkl]; rfl
    unfold minTo
    rw [e]
    rcases List.mem_append.1 h with h | h
    · have := minTo_le f s k (by omega) c h
      split <;> omega
    · simp only [List.mem_singleton] at h
      subst h
      split <;> omega
theorem minTo_at (f : C → Int) (s : List C) (h0 : 0 < s.length) : ∀ k, k ≤ s.length → ∃ c ∈ s, minTo f s k = f c
  | 0, _ => ⟨s.getD 0 default, getD_mem h0, rfl⟩
  | k + 1, hk => by
    unfold minTo
    split
    · exact ⟨_, getD_mem (by omega), rfl⟩
    · exact minTo_at f s h0 k (by omega)
theorem minC_le (f : C → Int) {s : List C} {c : C} (h : c ∈ s) : minC f s ≤ f c := minTo_le f s s.length (Nat.le_refl _) c (by rw [List.take_length]; exact h)
theorem minC_at (f : C → Int) {s : List C} (h0 : 0 < s.length) : ∃ c ∈ s, minC f s = f c := minTo_at f s h0 s.length (Nat.le_refl _)
theorem minC_uniq (f : C → Int) {s : List C} (h0 : 0 < s.length) {m : Int} (h1 : ∃ c ∈ s, m = f c) (h2 : ∀ c ∈ s, m ≤ f c) : minC f s = m := by
  obtain ⟨c, hc, e⟩ := minC_at f h0
  obtain ⟨d, hd, e2⟩ := h1
  have := minC_le f hd
  have := h2 c hc
  omega
theorem minC_same (f : C → Int) {s t : List C} (h0 : 0 < s.length) (h1 : 0 < t.length) (h : ∀ x, x ∈ s ↔ x ∈ t) : minC f s = minC f t := by
  obtain ⟨c, hc, e⟩ := minC_at f h1
  exact minC_uniq f h0 ⟨c, (h c).2 hc, e⟩ fun d hd => minC_le f ((h d).1 hd)
/-- Moved. -/
def mv (s : List C) (x y : Int) : List C := s.map fun c => (c.1 + x, c.2 + y)
theorem mv_len (s : List C) (x y : Int) : (mv s x y).length = s.length := by simp [mv]
theorem mv_take (s : List C) (x y : Int) (k : Nat) (hk : k < s.length) : mv (s.take (k + 1)) x y = mv (s.take k) x y ++ [(s[k].1 + x, s[k].2 + y)] := by
  rw [List.take_succ_eq_append_getElem hk]
  show List.map _ (_ ++ _) = _
  rw [List.map_append]
  rfl
theorem mv_inc {s : List C} (h : IncG befC s) (x y : Int) : IncG befC (mv s x y) := by
  unfold IncG mv
  rw [List.pairwise_map]
  refine h.imp fun {a b} hab => ?_
  simp only [befC, Bool.or_eq_true, Bool.and_eq_true, decide_eq_true_eq, beq_iff_eq] at hab ⊢
  omega
theorem mv_mem (s : List C) (x y : Int) (c : C) : c ∈ mv s x y ↔ (c.1 - x, c.2 - y) ∈ s := by
  simp only [mv, List.mem_map]
  constructor
  · rintro ⟨d, hd, rfl⟩
    have e : ((d.1 + x - x, d.2 + y - y) : C) = d := Prod.ext (by simp) (by simp)
    simpa [e] using hd
  · intro h
    exact ⟨_, h, Prod.ext (by simp) (by simp)⟩
/-- To the corner: the program's way, the reference's way. -/
def sortC (s : List C) : List C := sortG befC s
def cornI (s : List C) : List C := sortC (mv s (-(minC (·.1) s)) (-(minC (·.2) s)))
def cornS (s : List C) : List C := mv s (-(minC (·.1) s)) (-(minC (·.2) s))
theorem sortC_ne {s : List C} (h : 0 < s.length) : 0 < (sortC s).length := by
  obtain ⟨h1, h2⟩ := sortG_inc befC_sto s
  exact List.length_pos_of_mem ((h2 _).2 (List.getElem_mem h))
theorem sortC_mem (s : List C) (c : C) : c ∈ sortC s ↔ c ∈ s := (sortG_inc befC_sto s).2 c
theorem sortC_inc (s : List C) : IncG befC (sortC s) := (sortG_inc befC_sto s).1
theorem sortC_id {s : List C} (h : IncG befC s) : sortC s = s := sortG_id befC_sto h
theorem corn_eq {s : List C} (h : 0 < s.length) : cornI s = cornS (sortC s) := by
  unfold cornI cornS
  rw [minC_same (·.1) (sortC_ne h) h (sortC_mem s), minC_same (·.2) (sortC_ne h) h (sortC_mem s)]
  refine incG_eq befC_sto _ _ (sortC_inc _) (mv_inc (sortC_inc s) _ _) fun c => ?_
  rw [sortC_mem, mv_mem, mv_mem, sortC_mem]
theorem sortC_len (s : List C) : (sortC s).length ≤ s.length := sortG_len s
theorem cornI_len (s : List C) : (cornI s).length ≤ s.length := by
  have := sortC_len (mv s (-(minC (·.1) s)) (-(minC (·.2) s)))
  rwa [mv_len] at this
theorem isShape_inc {l : List C} (h : isShape l = true) : IncG befC l := by
  rw [IncG, List.pairwise_iff_getElem]
  intro i j hi hj hij
  exact shape_bef h j i hj hij
theorem minC_small {s : List C} (h0 : 0 < s.length) (h : ∀ c ∈ s, small c) : (-1000 ≤ minC (·.1) s ∧ minC (·.1) s ≤ 1000) ∧ (-1000 ≤ minC (·.2) s ∧ minC (·.2) s ≤ 1000) := by
  obtain ⟨c, hc, e⟩ := minC_at (·.1) h0
  obtain ⟨d, hd, e2⟩ := minC_at (·.2) h0
  have h1 := h c hc
  have h2 := h d hd
  unfold small at h1 h2
  rw [e, e2]
  exact ⟨h1.1, h2.2⟩
end Go.Proofs.YtkcgdnnipohehaaGreatDoor

/- Plain functions on shapes: inner sides, trees, snakes, ends, the order of growth. No program is in sight. -/
namespace Go.Proofs.YtkcgdnnipohehaaGreatDoor
open Go.RowKit
set_option linter.unusedVariables false

def degI (s : List C) (c : C) : Nat := s.countP fun d => nearI c d
def degS (s : List C) (c : C) : Nat := s.countP fun d => nearS d c
def deg (s : List C) (c : C) : Nat := s.countP fun d => near c d
def inner (l : List C) : Nat → Nat
  | 0 => 0
  | k + 1 => inner l k + (l.take k).countP fun d => near (l.getD k (0, 0)) d
noncomputable def isConn (l : List C) : Bool := isShape l && conn l
noncomputable def isTree (l : List C) : Bool := isConn l && (inner l l.length == l.length - 1)
noncomputable def isSnake (l : List C) : Bool := isTree l && l.all fun c => decide (deg l c ≤ 2)
theorem conn_shape {l : List C} (h : isConn l = true) : isShape l = true := by simp only [isConn, Bool.and_eq_true] at h; exact h.1
def ends (l : List C) : List C := if isShape l then l.filter fun c => deg l c == 1 else []
/-- A cell that is new and has a neighbour among those that came. -/
def nextTo (out : List C) (c : C) : Bool := !hasC out c.1 c.2 && touch out c
theorem hasC_iff (s : List C) (c : C) : hasC s c.1 c.2 = true ↔ c ∈ s := by
  unfold hasC
  rw [List.any_eq_true]
  constructor
  · rintro ⟨d, hd, h⟩
    simp only [Bool.and_eq_true, beq_iff_eq] at h
    rwa [show c = d from Prod.ext h.1.symm h.2.symm]
  · intro h
    exact ⟨c, h, by simp⟩
def grownBy (s : List C) : Nat → List C
  | 0 => [s0 s]
  | k + 1 => grownBy s k ++ (s.find? (nextTo (grownBy s k))).toList
end Go.Proofs.YtkcgdnnipohehaaGreatDoor

/- The order of growth of a connected shape is a growth of its cells. No program is in sight. -/
namespace Go.Proofs.YtkcgdnnipohehaaGreatDoor
set_option linter.unusedVariables false
end Go.Proofs.YtkcgdnnipohehaaGreatDoor

/- Shapes turned, their orientations: plain functions. No program is in sight. -/
namespace Go.Proofs.YtkcgdnnipohehaaGreatDoor
open Go.RowKit
set_option linter.unusedVariables false
/-- A cell turned. -/
def rotC : Nat → C → C
  | 0, c => c
  | k + 1, c => (-(rotC k c).2, (rotC k c).1)
def flipC (m : Nat) (c : C) : C := if 4 ≤ m then (-c.1, c.2) else c
def motC (m : Nat) (c : C) : C := rotC (m % 4) (flipC m c)
def in7 (b : Int) (c : C) : Prop := (-b ≤ c.1 ∧ c.1 ≤ b) ∧ (-b ≤ c.2 ∧ c.2 ≤ b)
theorem in7_rot {b : Int} {c : C} (h : in7 b c) : ∀ k, in7 b (rotC k c)
  | 0 => h
  | k + 1 => by
    have := in7_rot h k
    unfold in7 at this ⊢
    simp only [rotC]
    omega
theorem in7_flip {b : Int} {c : C} (h : in7 b c) (m : Nat) : in7 b (flipC m c) := by
  unfold in7 at h ⊢
  unfold flipC
  split
  · simp only; omega
  · exact h
theorem in7_mot {b : Int} {c : C} (h : in7 b c) (m : Nat) : in7 b (motC m c) := in7_rot (in7_flip h m) _
theorem in7_onB {c : C} (h : onB c = true) : in7 7 c := by
  simp [onB] at h
  unfold in7
  omega
/-- A shape turned, in its corner. -/
def turnV (s : List C) (m : Nat) : List C := cornI (s.map (motC m))
theorem turn_in {s : List C} (hs : isShape s = true) (m : Nat) : ∀ c ∈ s.map (motC m), in7 7 c := by
  intro c hc
  obtain ⟨d, hd, rfl⟩ := List.mem_map.1 hc
  exact in7_mot (in7_onB (shape_onB hs d hd)) m
theorem turn_len {s : List C} (hs : isShape s = true) (m : Nat) : 1 ≤ (turnV s m).length ∧ (turnV s m).length ≤ 8 := by
  have h1 := shape_len hs
  have h2 := cornI_len (s.map (motC m))
  rw [List.length_map] at h2
  refine ⟨?_, by unfold turnV; omega⟩
  have h3 : 0 < (mv (s.map (motC m)) (-(minC (·.1) (s.map (motC m)))) (-(minC (·.2) (s.map (motC m))))).length := by rw [mv_len, List.length_map]; omega
  exact sortC_ne h3
/-- The orientations on the way. -/
def orTo (s : List C) : Nat → List (List C)
  | 0 => []
  | k + 1 => putG ltS (orTo s k) (turnV s k)
def orV (s : List C) : List (List C) := if isShape s then orTo s 8 else []
theorem orTo_inc (s : List C) : ∀ k, IncG ltS (orTo s k)
  | 0 => List.Pairwise.nil
  | k + 1 => (putG_inc ltS_sto (orTo_inc s k) _).1
theorem orTo_mem (s : List C) : ∀ k x, x ∈ orTo s k → ∃ m, m < k ∧ x = turnV s m
  | 0, x, h => by simp [orTo] at h
  | k + 1, x, h => by
    rcases ((putG_inc ltS_sto (orTo_inc s k) _).2 x).1 h with h | h
    · obtain ⟨m, hm, e⟩ := orTo_mem s k x h
      exact ⟨m, by omega, e⟩
    · exact ⟨k, by omega, h⟩
theorem orTo_len (s : List C) : ∀ k, (orTo s k).length ≤ k
  | 0 => by simp [orTo]
  | k + 1 => by
    have h1 := orTo_len s k
    have h2 := putG_len (lt := ltS) (orTo s k) (turnV s k)
    show (putG ltS (orTo s k) (turnV s k)).length ≤ _
    omega
theorem orV_len (s : List C) : (orV s).length ≤ 8 := by
  unfold orV
  split
  · exact orTo_len s 8
  · simp
end Go.Proofs.YtkcgdnnipohehaaGreatDoor

/- Insertion sort by exchanges of neighbours, on lists. No program is in sight. -/
namespace Go.Proofs.YtkcgdnnipohehaaGreatDoor
open Go.RowKit
set_option linter.unusedVariables false
section
variable {α : Type} [Inhabited α] {lt : α → α → Bool}
/-- The elements at i and j exchanged. -/
def swL (l : List α) (i j : Nat) : List α := (l.set i (l.getD j default)).set j (l.getD i default)
theorem swL_len (l : List α) (i j : Nat) : (swL l i j).length = l.length := by simp [swL]
theorem getD_in (l : List α) {i : Nat} (h : i < l.length) : l.getD i default = l[i] := by rw [List.getD_eq_getElem?_getD, List.getElem?_eq_getElem h]; rfl
theorem swL_get (l : List α) {i j : Nat} (hi : i < l.length) (hj : j < l.length) (k : Nat) : (swL l i j).getD k default = if k = j then l.getD i default else if k = i then l.getD j default else l.getD k default := by
  unfold swL
  simp only [List.getD_eq_getElem?_getD, List.getElem?_set, List.length_set]
  by_cases h1 : j = k
  · subst h1
    simp [hj]
  · simp only [if_neg h1]
    rw [if_neg (Ne.symm h1)]
    by_cases h2 : i = k
    · subst h2
      simp [hi]
    · simp only [if_neg h2]
      rw [if_neg (Ne.symm h2)]
theorem swL_mem (l : List α) {i j : Nat} (hi : i < l.length) (hj : j < l.length) (x : α) : x ∈ swL l i j ↔ x ∈ l := by
  have key : ∀ (l : List α) (i j : Nat), i < l.length → j < l.length → x ∈ swL l i j → x ∈ l := by
    intro l i j hi hj h
    obtain ⟨k, hk, rfl⟩ := List.mem_iff_getElem.1 h
    rw [← getD_in _ hk, swL_get l hi hj]
    split
    · exact getD_mem hi
    · split
      · exact getD_mem hj
      · exact getD_mem (by rw [swL_len] at hk; exact hk)
  refine ⟨key l i j hi hj, fun h => ?_⟩
  obtain ⟨k, hk, rfl⟩ := List.mem_iff_getElem.1 h
  rw [← getD_in _ hk]
  have hm : ∀ q, q < l.length → (swL l i j).getD q default ∈ swL l i j := fun q hq => getD_mem (by rw [swL_len]; exact hq)
  by_cases h1 : k = i
  · subst h1
    have := hm j hj
    rwa [swL_get l hi hj, if_pos rfl] at this
  · by_cases h2 : k = j
    · subst h2
      have := hm i hi
      rw [swL_get l hi hj] at this
      by_cases h3 : i = k
      · exact absurd h3.symm h1
      · rwa [if_neg h3, if_pos rfl] at this
    · have := hm k hk
      rwa [swL_get l hi hj, if_neg h2, if_neg h1] at this
/-- The first i + 1 elements are in order but for the one at j, that may be less than some ahead of it. -/
def NearO (lt : α → α → Bool) (l : List α) (i j : Nat) : Prop := ∀ a b, a < b → b ≤ i → b ≠ j → lt (l.getD b default) (l.getD a default) = false
def OrdTo (lt : α → α → Bool) (l : List α) (i : Nat) : Prop := ∀ a b, a < b → b < i → lt (l.getD b default) (l.getD a default) = false
theorem OrdTo.start (l : List α) : OrdTo lt l 1 := fun a b h1 h2 => by omega
theorem OrdTo.near {l : List α} {i : Nat} (h : OrdTo lt l i) : NearO lt l i i := fun a b h1 h2 h3 => h a b h1 (by omega)
theorem NearO.zero {l : List α} {i : Nat} (h : NearO lt l i 0) : OrdTo lt l (i + 1) := fun a b h1 h2 => h a b h1 (by omega) (by omega)
theorem NearO.stop (hO : STO lt) {l : List α} {i j : Nat} (h : NearO lt l i (j + 1)) (hji : j + 1 ≤ i) (hl : lt (l.getD (j + 1) default) (l.getD j default) = false) : OrdTo lt l (i + 1) := by
  intro a b h1 h2
  by_cases hb : b = j + 1
  · subst hb
    by_cases ha : a = j
    · subst ha; exact hl
    · have h3 := h a j (by omega) (by omega) (by omega)
      cases hc : lt (l.getD (j + 1) default) (l.getD a default) with
      | false => rfl
      | true =>
        exfalso
        cases hd : lt (l.getD a default) (l.getD j default) with
        | true => rw [hO.trans hc hd] at hl; cases hl
        | false => rw [hO.tot hd h3] at hc; rw [hc] at hl; cases hl
  · exact h a b h1 (by omega) hb
theorem NearO.step (hO : STO lt) {l : List α} {i j : Nat} (h : NearO lt l i (j + 1)) (hji : j + 1 ≤ i) (hil : i < l.length) (hl : lt (l.getD (j + 1) default) (l.getD j default) = true) : NearO lt (swL l (j + 1) j) i j := by
  have hj1 : j + 1 < l.length := by omega
  have hj : j < l.length := by omega
  intro a b h1 h2 h3
  rw [swL_get l hj1 hj, swL_get l hj1 hj, if_neg h3]
  by_cases hb : b = j + 1
  · rw [if_pos hb]
    by_cases ha : a = j
    · rw [if_pos ha]; exact hO.asym hl
    · rw [if_neg ha, if_neg (by omega)]
      exact h a j (by omega) (by omega) (by omega)
  · rw [if_neg hb]
    by_cases ha : a = j
    · rw [if_pos ha]
      exact h (j + 1) b (by omega) h2 hb
    · rw [if_neg ha]
      by_cases ha2 : a = j + 1
      · rw [if_pos ha2]
        exact h j b (by omega) h2 hb
      · rw [if_neg ha2]
        exact h a b h1 h2 hb
theorem OrdTo.done {l : List α} (h : OrdTo lt l l.length) : l.Pairwise (fun a b => lt b a = false) := by
  rw [List.pairwise_iff_getElem]
  intro i j hi hj hij
  have := h i j hij hj
  rwa [getD_in l hj, getD_in l hi] at this
end
end Go.Proofs.YtkcgdnnipohehaaGreatDoor

/- Shapes with one cell more, all shapes of some cells: plain functions. No program is in sight. -/
namespace Go.Proofs.YtkcgdnnipohehaaGreatDoor
open Go.RowKit
set_option linter.unusedVariables false
/-- The neighbours of a cell, in the program's order, in the reference's. -/
def sidesV (c : C) : List C := [(c.1, c.2 - 1), (c.1 - 1, c.2), (c.1 + 1, c.2), (c.1, c.2 + 1)]
def sidesS (c : C) : List C := [(c.1 + 1, c.2), (c.1, c.2 + 1), (c.1 - 1, c.2), (c.1, c.2 - 1)]
theorem sides_same (c d : C) : d ∈ sidesV c ↔ d ∈ sidesS c := by
  simp only [sidesV, sidesS, List.mem_cons, List.not_mem_nil, or_false]
  constructor
  · rintro (h | h | h | h) <;> simp [h]
  · rintro (h | h | h | h) <;> simp [h]
/-- The list with one shape more, if there is one at place d. -/
def extStep (s : List C) (out : List (List C)) (d : C) : List (List C) := if hasC s d.1 d.2 then out else if isShape (cornI (s ++ [d])) then putG ltS out (cornI (s ++ [d])) else out
def extTo (f : C → List C) (s : List C) (k : Nat) : List (List C) := ((s.take k).flatMap f).foldl (extStep s) []
def extV (s : List C) : List (List C) := extTo sidesV s s.length
theorem extTo_succ (f : C → List C) (s : List C) (k : Nat) (hk : k < s.length) : extTo f s (k + 1) = (f s[k]).foldl (extStep s) (extTo f s k) := by
  unfold extTo
  rw [List.take_succ_eq_append_getElem hk, List.flatMap_append, List.foldl_append]
  congr 1
  simp
/-- What a list of shapes in order bears: they are shapes, in order. -/
def FineF (F : List (List C)) : Prop := IncG ltS F ∧ ∀ x ∈ F, isShape x = true
theorem FineF.nil : FineF [] := ⟨List.Pairwise.nil, by simp⟩
theorem FineF.put {F : List (List C)} (h : FineF F) {t : List C} (ht : isShape t = true) : FineF (putG ltS F t) := by
  obtain ⟨h1, h2⟩ := putG_inc ltS_sto h.1 t
  refine ⟨h1, fun x hx => ?_⟩
  rcases (h2 x).1 hx with h3 | h3
  · exact h.2 x h3
  · rw [h3]; exact ht
theorem FineF.step {F : List (List C)} (h : FineF F) (s : List C) (d : C) : FineF (extStep s F d) := by
  unfold extStep
  split
  · exact h
  · split
    · next hs => exact h.put hs
    · exact h
theorem FineF.fold {F : List (List C)} (h : FineF F) (s : List C) (l : List C) : FineF (l.foldl (extStep s) F) := by
  induction l generalizing F with
  | nil => exact h
  | cons a t ih => exact ih (h.step s a)
theorem FineF.len {F : List (List C)} (h : FineF F) : ∀ x ∈ F, x.length ≤ 8 := fun x hx => (shape_len (h.2 x hx)).2
theorem extTo_fine (f : C → List C) (s : List C) (k : Nat) : FineF (extTo f s k) := FineF.nil.fold s _
theorem extStep_len (s : List C) (F : List (List C)) (d : C) : (extStep s F d).length ≤ F.length + 1 := by
  unfold extStep
  split
  · omega
  · split
    · exact putG_len _ _
    · omega
theorem foldExt_len (s : List C) (l : List C) (F : List (List C)) : (l.foldl (extStep s) F).length ≤ F.length + l.length := by
  induction l generalizing F with
  | nil => simp
  | cons a t ih =>
    rw [List.foldl_cons]
    have := ih (extStep s F a)
    have := extStep_len s F a
    simp only [List.length_cons]
    omega
theorem extTo_len (f : C → List C) (hf : ∀ c, (f c).length = 4) (s : List C) : ∀ k, k ≤ s.length → (extTo f s k).length ≤ 4 * k
  | 0, _ => by simp [extTo]
  | k + 1, hk => by
    rw [extTo_succ f s k (by omega)]
    have := foldExt_len s (f s[k]) (extTo f s k)
    rw [hf] at this
    have := extTo_len f hf s k (by omega)
    omega
/-- What is in the list. -/
def extP (s : List C) (x : List C) (d : C) : Prop := hasC s d.1 d.2 = false ∧ isShape (cornI (s ++ [d])) = true ∧ x = cornI (s ++ [d])
theorem extStep_mem {F : List (List C)} (h : FineF F) (s : List C) (d : C) (x : List C) : x ∈ extStep s F d ↔ x ∈ F ∨ extP s x d := by
  unfold extStep extP
  cases h1 : hasC s d.1 d.2 with
  | true => simp
  | false =>
    cases h2 : isShape (cornI (s ++ [d])) with
    | true =>
      simp only [Bool.false_eq_true, if_false, if_true, true_and]
      exact (putG_inc ltS_sto h.1 _).2 x
    | false => simp
theorem foldExt_mem (s : List C) (l : List C) {F : List (List C)} (h : FineF F) (x : List C) : x ∈ l.foldl (extStep s) F ↔ x ∈ F ∨ ∃ d ∈ l, extP s x d := by
  induction l generalizing F with
  | nil => simp
  | cons a t ih =>
    rw [List.foldl_cons, ih (h.step s a), extStep_mem h]
    simp only [List.mem_cons]
    constructor
    · rintro ((h | h) | ⟨d, hd, h⟩)
      · exact .inl h
      · exact .inr ⟨a, .inl rfl, h⟩
      · exact .inr ⟨d, .inr hd, h⟩
    · rintro (h | ⟨d, rfl | hd, h⟩)
      · exact .inl (.inl h)
      · exact .inl (.inr h)
      · exact .inr ⟨d, hd, h⟩
theorem ext_same (s : List C) : extTo sidesS s s.length = extV s := by
  refine incG_eq ltS_sto _ _ (extTo_fine _ _ _).1 (extTo_fine _ _ _).1 fun x => ?_
  unfold extV extTo
  rw [foldExt_mem s _ FineF.nil, foldExt_mem s _ FineF.nil]
  simp only [List.not_mem_nil, false_or, List.mem_flatMap, List.take_length]
  constructor
  · rintro ⟨d, ⟨c, hc, hd⟩, h⟩
    exact ⟨d, ⟨c, hc, (sides_same c d).2 hd⟩, h⟩
  · rintro ⟨d, ⟨c, hc, hd⟩, h⟩
    exact ⟨d, ⟨c, hc, (sides_same c d).1 hd⟩, h⟩
/-- All shapes of k + 1 cells. -/
def growN (F : List (List C)) (k : Nat) : List (List C) := (F.take k).foldl (fun acc s => (extV s).foldl (putG ltS) acc) []
def fixV : Nat → List (List C)
  | 0 => [[(0, 0)]]
  | k + 1 => growN (fixV k) (fixV k).length
theorem growN_succ (F : List (List C)) (k : Nat) (hk : k < F.length) : growN F (k + 1) = (extV F[k]).foldl (putG ltS) (growN F k) := by
  unfold growN
  rw [List.take_succ_eq_append_getElem hk, List.foldl_append]
  rfl
theorem FineF.puts {F : List (List C)} (h : FineF F) {l : List (List C)} (hl : ∀ x ∈ l, isShape x = true) : FineF (l.foldl (putG ltS) F) := by
  induction l generalizing F with
  | nil => exact h
  | cons a t ih => exact ih (h.put (hl a (by simp))) (fun x hx => hl x (by simp [hx]))
theorem growN_fine (F : List (List C)) : ∀ k, k ≤ F.length → FineF (growN F k)
  | 0, _ => FineF.nil
  | k + 1, hk => by
    rw [growN_succ F k (by omega)]
    exact (growN_fine F k (by omega)).puts (extTo_fine _ _ _).2
theorem fixV_fine : ∀ k, FineF (fixV k)
  | 0 => ⟨List.pairwise_singleton _ _, by intro x hx; simp only [fixV, List.mem_singleton] at hx; rw [hx]; decide⟩
  | k + 1 => growN_fine _ _ (Nat.le_refl _)
theorem extV_len (s : List C) : (extV s).length ≤ 4 * s.length := extTo_len sidesV (fun _ => rfl) s s.length (Nat.le_refl _)
theorem growN_len (F : List (List C)) (hF : ∀ x ∈ F, isShape x = true) : ∀ k, k ≤ F.length → (growN F k).length ≤ 32 * k
  | 0, _ => by simp [growN]
  | k + 1, hk => by
    rw [growN_succ F k (by omega)]
    have h1 := foldlG_len (lt := ltS) (extV F[k]) (growN F k)
    have h2 := extV_len F[k]
    have h3 := (shape_len (hF _ (List.getElem_mem (by omega : k < F.length)))).2
    have := growN_len F hF k (by omega)
    omega
theorem fixV_len (k : Nat) : (fixV k).length ≤ 32 ^ k := by
  induction k with
  | zero => simp [fixV]
  | succ k ih =>
    have := growN_len (fixV k) (fixV_fine k).2 (fixV k).length (Nat.le_refl _)
    show (growN _ _).length ≤ _
    rw [Nat.pow_succ]
    omega
/-- The numbers that the walks meet: small cells. -/
theorem sidesV_small {c : C} (h : onB c = true) : ∀ d ∈ sidesV c, -1 ≤ d.1 ∧ d.1 ≤ 8 ∧ -1 ≤ d.2 ∧ d.2 ≤ 8 := by
  simp [onB] at h
  intro d hd
  simp only [sidesV, List.mem_cons, List.not_mem_nil, or_false] at hd
  rcases hd with rfl | rfl | rfl | rfl <;> (simp only; omega)
theorem app_small {s : List C} (hs : isShape s = true) {d : C} (hd : -1 ≤ d.1 ∧ d.1 ≤ 8 ∧ -1 ≤ d.2 ∧ d.2 ≤ 8) : ∀ c ∈ s ++ [d], small c := by
  intro c hc
  rcases List.mem_append.1 hc with h | h
  · exact shape_small hs c h
  · simp only [List.mem_singleton] at h
    subst h
    unfold small
    omega
end Go.Proofs.YtkcgdnnipohehaaGreatDoor

/- Corners of moved lists, what a connected shape's corner is; all shapes are among those grown. No program is in sight. -/
namespace Go.Proofs.YtkcgdnnipohehaaGreatDoor
open Go.RowKit
set_option linter.unusedVariables false
theorem cornI_same {A B : List C} (hA : 0 < A.length) (hB : 0 < B.length) (x y : Int) (h : ∀ c : C, c ∈ B ↔ ((c.1 - x, c.2 - y) : C) ∈ A) : cornI B = cornI A := by
  have e1 : minC (·.1) B = minC (·.1) A + x := by
    obtain ⟨a, ha, e⟩ := minC_at (·.1) hA
    refine minC_uniq (·.1) hB ⟨(a.1 + x, a.2 + y), (h _).2 (by simpa using ha), by rw [e]⟩ fun c hc => ?_
    have h1 := minC_le (·.1) ((h c).1 hc)
    simp only at h1
    omega
  have e2 : minC (·.2) B = minC (·.2) A + y := by
    obtain ⟨a, ha, e⟩ := minC_at (·.2) hA
    refine minC_uniq (·.2) hB ⟨(a.1 + x, a.2 + y), (h _).2 (by simpa using ha), by rw [e]⟩ fun c hc => ?_
    have h1 := minC_le (·.2) ((h c).1 hc)
    simp only at h1
    omega
  unfold cornI
  refine incG_eq befC_sto _ _ (sortC_inc _) (sortC_inc _) fun c => ?_
  rw [sortC_mem, sortC_mem, mv_mem, mv_mem, h, e1, e2]
  have e3 : ((c.1 - -(minC (·.1) A + x) - x, c.2 - -(minC (·.2) A + y) - y) : C) = (c.1 - -(minC (·.1) A), c.2 - -(minC (·.2) A)) := Prod.ext (by simp only; omega) (by simp only; omega)
  exact iff_of_eq (congrArg (· ∈ A) e3)
theorem cornI_mem (s : List C) (c : C) : c ∈ cornI s ↔ ((c.1 + minC (·.1) s, c.2 + minC (·.2) s) : C) ∈ s := by
  unfold cornI
  rw [sortC_mem, mv_mem]
  have e3 : ((c.1 - -(minC (·.1) s), c.2 - -(minC (·.2) s)) : C) = (c.1 + minC (·.1) s, c.2 + minC (·.2) s) := Prod.ext (by simp only; omega) (by simp only; omega)
  exact iff_of_eq (congrArg (· ∈ s) e3)
theorem cornI_shape {s : List C} (h : isShape s = true) : cornI s = mv s (-(minC (·.1) s)) (-(minC (·.2) s)) := sortC_id (mv_inc (isShape_inc h) _ _)
theorem shape_of {l : List C} (h1 : IncG befC l) (h2 : ∀ c ∈ l, onB c = true) (h3 : 1 ≤ l.length) (h4 : l.length ≤ 8) : isShape l = true := by
  simp only [isShape, Bool.and_eq_true, decide_eq_true_eq]
  refine ⟨?_, h3, h4⟩
  unfold shapeTo
  rw [List.all_eq_true]
  intro i hi
  rw [List.mem_range] at hi
  rw [List.getD_eq_getElem?_getD, List.getElem?_eq_getElem hi]
  simp only [shapeAt, Option.getD_some, Bool.and_eq_true, Bool.or_eq_true, beq_iff_eq]
  refine ⟨h2 _ (List.getElem_mem hi), ?_⟩
  rcases Nat.eq_zero_or_pos i with h0 | h0
  · exact .inl h0
  · refine .inr ?_
    rw [List.getD_eq_getElem?_getD, List.getElem?_eq_getElem (by omega : i - 1 < l.length)]
    unfold IncG at h1
    rw [List.pairwise_iff_getElem] at h1
    exact h1 (i - 1) i (by omega) hi (by omega)
theorem inc_nodup {l : List C} (h : IncG befC l) : l.Nodup := by
  unfold IncG at h
  refine h.imp fun {a b} hab e => ?_
  rw [e, befC_irr] at hab
  cases hab
theorem sortC_len_nd {s : List C} (h : s.Nodup) : (sortC s).length = s.length := by
  have h1 := sortC_len s
  have h2 := nodup_len s (sortC s) h (fun c hc => (sortC_mem s c).2 hc)
  omega
theorem mv_nodup {s : List C} (h : s.Nodup) (x y : Int) : (mv s x y).Nodup := by
  unfold mv
  unfold List.Nodup at h ⊢
  rw [List.pairwise_map]
  refine h.imp fun {a b} hab e => hab ?_
  simp only [Prod.mk.injEq] at e
  exact Prod.ext (by omega) (by omega)
theorem cornI_len_nd {s : List C} (h : s.Nodup) : (cornI s).length = s.length := by
  unfold cornI
  rw [sortC_len_nd (mv_nodup h _ _), mv_len]
/-- The corner of different cells that lie near each other is a shape. -/
theorem corn_shape7 {s : List C} (h1 : s.Nodup) (h2 : ∀ a ∈ s, ∀ b ∈ s, a.1 - b.1 ≤ 7 ∧ a.2 - b.2 ≤ 7) (h3 : 1 ≤ s.length) (h4 : s.length ≤ 8) : isShape (cornI s) = true := by
  have hl := cornI_len_nd h1
  refine shape_of (sortC_inc _) (fun c hc => ?_) (by omega) (by omega)
  have h5 := (cornI_mem s c).1 hc
  have h7 := minC_le (·.1) h5
  have h8 := minC_le (·.2) h5
  obtain ⟨a, ha, e⟩ := minC_at (·.1) (show 0 < s.length by omega)
  obtain ⟨b, hb, f⟩ := minC_at (·.2) (show 0 < s.length by omega)
  have h9 := h2 _ h5 a ha
  have h10 := h2 _ h5 b hb
  simp only [onB, Bool.and_eq_true, decide_eq_true_eq]
  simp only at h7 h8 h9 h10
  omega
theorem corn_shape {s : List C} (h1 : s.Nodup) (h2 : ∀ c ∈ s, onB c = true) (h3 : 1 ≤ s.length) (h4 : s.length ≤ 8) : isShape (cornI s) = true := by
  refine corn_shape7 h1 (fun a ha b hb => ?_) h3 h4
  have h5 := h2 a ha
  have h6 := h2 b hb
  simp only [onB, Bool.and_eq_true, decide_eq_true_eq] at h5 h6
  omega
theorem hasC_iff2 (s : List C) (c : C) : hasC s c.1 c.2 = true ↔ c ∈ s := by
  unfold hasC
  rw [List.any_eq_true]
  constructor
  · rintro ⟨d, hd, h⟩
    simp only [Bool.and_eq_true, beq_iff_eq] at h
    have e : d = c := Prod.ext h.1 h.2
    rw [← e]; exact hd
  · intro h
    exact ⟨c, h, by simp⟩
theorem s0_in {s : List C} (h : 0 < s.length) : s0 s ∈ s := by
  unfold s0
  rw [List.getD_eq_getElem?_getD, List.getElem?_eq_getElem h]
  exact List.getElem_mem h
/-- Reached from each other. -/
theorem Rch.trans {s : List C} {a b c : C} (h : Rch s a b) (k : Rch s b c) : Rch s a c := by
  induction k with
  | base => exact h
  | step _ h2 h3 ih => exact ih.step h2 h3
theorem Rch.symm {s : List C} {a b : C} (ha : a ∈ s) (h : Rch s a b) : Rch s b a ∧ b ∈ s := by
  induction h with
  | base => exact ⟨.base, ha⟩
  | @step b c _ h2 h3 ih => exact ⟨Rch.trans (Rch.step .base ih.2 (by rw [near_symm]; exact h3)) ih.1, h2⟩
/-- Connectedness under a map that keeps sides. -/
theorem conn_map {s t : List C} (f : C → C) (hn : ∀ a b, near (f a) (f b) = near a b) (hi : ∀ a b, f a = f b → a = b) (hm : ∀ c, c ∈ t ↔ ∃ b ∈ s, f b = c) (hs : 0 < s.length) (ht : 0 < t.length) : conn t = conn s := by
  have h0 : s0 s ∈ s := s0_in hs
  have t0 : s0 t ∈ t := s0_in ht
  obtain ⟨b0, hb0, e0⟩ := (hm _).1 t0
  rw [Bool.eq_iff_iff, conn_iff, conn_iff]
  constructor
  · intro h
    have key : ∀ d, Rch t (s0 t) d → ∃ b ∈ s, f b = d ∧ Rch s b0 b := by
      intro d hd
      induction hd with
      | base => exact ⟨b0, hb0, e0, .base⟩
      | @step d e _ he hne ih =>
        obtain ⟨b, hb, rfl, hr⟩ := ih
        obtain ⟨b', hb', rfl⟩ := (hm _).1 he
        exact ⟨b', hb', rfl, hr.step hb' (by rw [← hn]; exact hne)⟩
    have all : ∀ c ∈ s, Rch s b0 c := by
      intro c hc
      obtain ⟨b, hb, e, hr⟩ := key _ (h (f c) ((hm _).2 ⟨c, hc, rfl⟩))
      rw [← hi _ _ e]; exact hr
    intro c hc
    exact Rch.trans (Rch.symm hb0 (all _ h0)).1 (all c hc)
  · intro h
    have key : ∀ d, Rch s b0 d → Rch t (f b0) (f d) := by
      intro d hd
      induction hd with
      | base => exact .base
      | @step d e _ he hne ih => exact ih.step ((hm _).2 ⟨e, he, rfl⟩) (by rw [hn]; exact hne)
    intro c hc
    obtain ⟨b, hb, rfl⟩ := (hm c).1 hc
    rw [← e0]
    exact key b (Rch.trans (Rch.symm h0 (h b0 hb0)).1 (h b hb))
/-- Squares of four cells. -/
def sqC (s : List C) (c : C) : Bool := hasC s (c.1 + 1) c.2 && (hasC s c.1 (c.2 + 1) && hasC s (c.1 + 1) (c.2 + 1))
def sqV (s : List C) : Nat := s.countP (sqC s)
end Go.Proofs.YtkcgdnnipohehaaGreatDoor

/- Shapes counted by growth: plain functions, the numbers up to six cells. No program is in sight. -/
namespace Go.Proofs.YtkcgdnnipohehaaGreatDoor
open Go.RowKit
set_option linter.unusedVariables false
def okY (y : C) : Bool := decide (y.2 > 0) || (y.2 == 0 && decide (y.1 ≥ 0))
def stepM (mk : List C × List C) (y : C) : List C × List C := if okY y && !hasC mk.2 y.1 y.2 then (mk.1 ++ [y], mk.2 ++ [y]) else mk
def more4 (x : C) (more known : List C) (j : Nat) : List C × List C := ((sidesS x).take j).foldl stepM (more, known)
def growC : Nat → List C → List C → Nat
  | 0, u, _ => u.length
  | l + 1, u, s => ((List.range u.length).map fun k => 1 + growC l (more4 (u.getD k default) (u.take k) s 4).1 (more4 (u.getD k default) (u.take k) s 4).2).sum
def termC : Nat → List C → List C → Nat → Nat
  | 0, _, _, _ => 1
  | l + 1, u, s, k => 1 + growC l (more4 (u.getD k default) (u.take k) s 4).1 (more4 (u.getD k default) (u.take k) s 4).2
def growK (l : Nat) (u s : List C) (k : Nat) : Nat := ((List.range k).map (termC l u s)).sum
theorem growK_succ (l : Nat) (u s : List C) (k : Nat) : growK l u s (k + 1) = growK l u s k + termC l u s k := by
  unfold growK
  rw [List.range_succ, List.map_append, List.sum_append]
  simp
theorem growK_all (l : Nat) (u s : List C) : growK l u s u.length = growC l u s := by
  cases l with
  | zero =>
    have h : ∀ n, ((List.range n).map (termC 0 u s)).sum = n := by
      intro n
      induction n with
      | zero => rfl
      | succ n ih =>
        rw [List.range_succ, List.map_append, List.sum_append, ih]
        rfl
    exact h u.length
  | succ l => rfl
theorem more4_succ (x : C) (a b : List C) (j : Nat) (h : j < 4) : more4 x a b (j + 1) = stepM (more4 x a b j) ((sidesS x).getD j default) := by
  unfold more4
  have hl : j < (sidesS x).length := h
  rw [List.take_succ_eq_append_getElem hl, List.foldl_append, getD_in _ hl]
  rfl
theorem stepM_len (mk : List C × List C) (y : C) : (stepM mk y).1.length ≤ mk.1.length + 1 ∧ (stepM mk y).2.length ≤ mk.2.length + 1 := by
  unfold stepM
  split <;> simp
theorem more4_len (x : C) (a b : List C) : ∀ j, j ≤ 4 → (more4 x a b j).1.length ≤ a.length + j ∧ (more4 x a b j).2.length ≤ b.length + j
  | 0, _ => by simp [more4]
  | j + 1, h => by
    rw [more4_succ x a b j (by omega)]
    have h1 := more4_len x a b j (by omega)
    have h2 := stepM_len (more4 x a b j) ((sidesS x).getD j default)
    omega
def near0 (r : Int) (c : C) : Prop := -r ≤ c.1 ∧ c.1 ≤ r ∧ -r ≤ c.2 ∧ c.2 ≤ r
theorem sidesS_near {r : Int} {x : C} (h : near0 r x) : ∀ y ∈ sidesS x, near0 (r + 1) y := by
  intro y hy
  unfold near0 at h ⊢
  simp only [sidesS, List.mem_cons, List.not_mem_nil, or_false] at hy
  rcases hy with rfl | rfl | rfl | rfl <;> (simp only; omega)
theorem more4_near {r : Int} {x : C} {a b : List C} (hx : near0 r x) (ha : ∀ c ∈ a, near0 (r + 1) c) (hb : ∀ c ∈ b, near0 (r + 1) c) : ∀ j, j ≤ 4 → (∀ c ∈ (more4 x a b j).1, near0 (r + 1) c) ∧ (∀ c ∈ (more4 x a b j).2, near0 (r + 1) c)
  | 0, _ => ⟨ha, hb⟩
  | j + 1, h => by
    rw [more4_succ x a b j (by omega)]
    obtain ⟨h1, h2⟩ := more4_near hx ha hb j (by omega)
    have hy : near0 (r + 1) ((sidesS x).getD j default) := sidesS_near hx _ (getD_mem (show j < (sidesS x).length by show j < 4; omega))
    unfold stepM
    split
    · refine ⟨fun c hc => ?_, fun c hc => ?_⟩
      · rcases List.mem_append.1 hc with h3 | h3
        · exact h1 c h3
        · simp only [List.mem_singleton] at h3; rw [h3]; exact hy
      · rcases List.mem_append.1 hc with h3 | h3
        · exact h2 c h3
        · simp only [List.mem_singleton] at h3; rw [h3]; exact hy
    · exact ⟨h1, h2⟩
theorem sum_le (f : Nat → Nat) (B : Nat) : ∀ n, (∀ k, k < n → f k ≤ B) → ((List.range n).map f).sum ≤ n * B
  | 0, _ => by simp
  | n + 1, h => by
    rw [List.range_succ, List.map_append, List.sum_append]
    have := sum_le f B n (fun k hk => h k (by omega))
    have := h n (by omega)
    simp only [List.map_cons, List.map_nil, List.sum_cons, List.sum_nil, Nat.add_zero, Nat.add_mul, Nat.one_mul]
    omega
theorem growC_le : ∀ (l : Nat) (u s : List C), u.length + 4 * l ≤ 24 → growC l u s ≤ 25 ^ (l + 1)
  | 0, u, s, h => by simp [growC]; omega
  | l + 1, u, s, h => by
    unfold growC
    have hb : ∀ k, k < u.length → 1 + growC l (more4 (u.getD k default) (u.take k) s 4).1 (more4 (u.getD k default) (u.take k) s 4).2 ≤ 1 + 25 ^ (l + 1) := by
      intro k hk
      have h1 := (more4_len (u.getD k default) (u.take k) s 4 (Nat.le_refl _)).1
      rw [List.length_take] at h1
      have := growC_le l (more4 (u.getD k default) (u.take k) s 4).1 (more4 (u.getD k default) (u.take k) s 4).2 (by omega)
      omega
    have h2 := sum_le _ _ u.length hb
    have h3 : u.length ≤ 24 := by omega
    have h4 : u.length * (1 + 25 ^ (l + 1)) ≤ 24 * (1 + 25 ^ (l + 1)) := Nat.mul_le_mul_right _ h3
    have h5 : 25 ≤ 25 ^ (l + 1) := by have := Nat.pow_le_pow_right (show 0 < 25 by omega) (show 1 ≤ l + 1 by omega); simpa using this
    have h6 : 25 ^ (l + 1 + 1) = 25 * 25 ^ (l + 1) := by rw [Nat.pow_succ]; omega
    omega
/-- The reference's number. -/
def cntS (n : Nat) : Int := if n = 1 then (growC 0 [(0, 0)] [(0, 0)] : Nat) else (growC (n - 1) [(0, 0)] [(0, 0)] : Nat) - (growC (n - 2) [(0, 0)] [(0, 0)] : Nat)
/-- A list taken apart and put together again, so that the kernel has it at hand. -/
def frcI {β : Type} (x : Int) (k : Int → β) : β := match x with
  | .ofNat 0 => k 0
  | .ofNat (m + 1) => k (.ofNat (m + 1))
  | .negSucc 0 => k (.negSucc 0)
  | .negSucc (m + 1) => k (.negSucc (m + 1))
def frcS {β : Type} (s : List C) (k : List C → β) : β := match s with
  | [] => k []
  | a :: t => frcI a.1 fun x => frcI a.2 fun y => frcS t fun t' => k ((x, y) :: t')
def frcL {α β : Type} (l : List α) (k : List α → β) : β := match l with
  | [] => k []
  | a :: t => frcL t fun t' => k (a :: t')
theorem frcI_eq {β : Type} (x : Int) (k : Int → β) : frcI x k = k x := by unfold frcI; split <;> rfl
theorem frcS_eq {β : Type} : ∀ (s : List C) (k : List C → β), frcS s k = k s
  | [], k => rfl
  | a :: t, k => by unfold frcS; rw [frcI_eq, frcI_eq, frcS_eq t]
theorem frcL_eq {α β : Type} : ∀ (s : List α) (k : List α → β), frcL s k = k s
  | [], k => rfl
  | a :: t, k => by unfold frcL; rw [frcL_eq t]
/-- Put in its place, from the front. -/
def insL {α : Type} [DecidableEq α] (lt : α → α → Bool) : List α → α → List α
  | [], n => [n]
  | a :: t, n => if lt n a then n :: a :: t else if a = n then a :: t else a :: insL lt t n
theorem insL_inc {α : Type} [DecidableEq α] [Inhabited α] {lt : α → α → Bool} (hO : STO lt) (n : α) : ∀ {l : List α}, IncG lt l → IncG lt (insL lt l n) ∧ ∀ x, x ∈ insL lt l n ↔ x ∈ l ∨ x = n
  | [], _ => ⟨List.pairwise_singleton _ _, fun x => by simp [insL]⟩
  | a :: t, h => by
    obtain ⟨h1, h2⟩ := List.pairwise_cons.1 h
    unfold insL
    cases hna : lt n a with
    | true =>
      simp only [if_true]
      refine ⟨List.pairwise_cons.2 ⟨fun x hx => ?_, h⟩, fun x => by simp only [List.mem_cons]; exact ⟨fun hh => hh.elim .inr .inl, fun hh => hh.elim .inr .inl⟩⟩
      rcases List.mem_cons.1 hx with hx | hx
      · rw [hx]; exact hna
      · exact hO.trans hna (h1 x hx)
    | false =>
      simp only [Bool.false_eq_true, if_false]
      by_cases han : a = n
      · rw [if_pos han]
        exact ⟨h, fun x => ⟨.inl, fun hh => by rcases hh with hh | hh; exact hh; rw [hh, ← han]; exact List.mem_cons_self⟩⟩
      · rw [if_neg han]
        obtain ⟨i1, i2⟩ := insL_inc hO n h2
        have hlt : lt a n = true := by
          cases hc : lt a n with
          | true => rfl
          | false => exact absurd (hO.tot hc hna) han
        refine ⟨List.pairwise_cons.2 ⟨fun x hx => ?_, i1⟩, fun x => ?_⟩
        · rcases (i2 x).1 hx with hx | hx
          · exact h1 x hx
          · rw [hx]; exact hlt
        · simp only [List.mem_cons, i2 x]
          constructor
          · rintro (h | h | h)
            · exact .inl (.inl h)
            · exact .inl (.inr h)
            · exact .inr h
          · rintro ((h | h) | h)
            · exact .inl h
            · exact .inr (.inl h)
            · exact .inr (.inr h)
theorem insL_eq {l : List (List C)} (h : FineF l) (n : List C) : insL ltS l n = putG ltS l n := by
  obtain ⟨a1, a2⟩ := insL_inc ltS_sto n h.1
  obtain ⟨b1, b2⟩ := putG_inc ltS_sto h.1 n
  exact incG_eq ltS_sto _ _ a1 b1 fun x => by rw [a2, b2]
def extL (s : List C) : List (List C) → List C → List (List C)
  | acc, [] => acc
  | acc, d :: t => if hasC s d.1 d.2 then extL s acc t else frcS (cornI (s ++ [d])) fun c => if isShape c then frcL (insL ltS acc c) fun acc' => extL s acc' t else extL s acc t
theorem extL_eq (s : List C) : ∀ (l : List C) {acc : List (List C)}, FineF acc → extL s acc l = l.foldl (extStep s) acc
  | [], acc, _ => rfl
  | d :: t, acc, h => by
    rw [List.foldl_cons]
    unfold extL
    cases h1 : hasC s d.1 d.2 with
    | true =>
      have he : extStep s acc d = acc := by unfold extStep; rw [h1]; rfl
      rw [he, if_pos rfl]
      exact extL_eq s t h
    | false =>
      rw [if_neg (by simp), frcS_eq]
      cases h2 : isShape (cornI (s ++ [d])) with
      | true =>
        have he : extStep s acc d = putG ltS acc (cornI (s ++ [d])) := by unfold extStep; rw [h1, h2]; rfl
        rw [he, if_pos rfl, frcL_eq, insL_eq h]
        exact extL_eq s t (h.put h2)
      | false =>
        have he : extStep s acc d = acc := by unfold extStep; rw [h1, h2]; rfl
        rw [he, if_neg (by simp)]
        exact extL_eq s t h
def putsF : List (List C) → List (List C) → List (List C)
  | [], acc => acc
  | a :: t, acc => frcL (insL ltS acc a) fun acc' => putsF t acc'
theorem putsF_eq : ∀ (l acc : List (List C)), FineF acc → (∀ x ∈ l, isShape x = true) → putsF l acc = l.foldl (putG ltS) acc
  | [], acc, _, _ => rfl
  | a :: t, acc, h, hl => by
    unfold putsF
    rw [frcL_eq, insL_eq h, putsF_eq t _ (h.put (hl a (by simp))) (fun x hx => hl x (by simp [hx]))]
    rfl
def growF : List (List C) → List (List C) → List (List C)
  | [], acc => acc
  | s :: t, acc => frcL (putsF (extL s [] (s.flatMap sidesV)) acc) fun acc' => growF t acc'
theorem extL_V (s : List C) : extL s [] (s.flatMap sidesV) = extV s := by
  rw [extL_eq s _ FineF.nil]
  unfold extV extTo
  rw [List.take_length]
theorem growF_eq : ∀ (F acc : List (List C)), FineF acc → growF F acc = F.foldl (fun acc s => (extV s).foldl (putG ltS) acc) acc
  | [], acc, _ => rfl
  | s :: t, acc, h => by
    unfold growF
    have hx : ∀ x ∈ extV s, isShape x = true := (extTo_fine sidesV s s.length).2
    rw [frcL_eq, extL_V, putsF_eq _ _ h hx, growF_eq t _ (h.puts hx)]
    rfl
def fixF : Nat → List (List C)
  | 0 => [[(0, 0)]]
  | k + 1 => frcL (fixF k) fun F => growF F []
theorem fixF_eq : ∀ k, fixF k = fixV k
  | 0 => rfl
  | k + 1 => by
    unfold fixF fixV
    rw [frcL_eq, fixF_eq k, growF_eq _ _ FineF.nil, growN, List.take_length]
end Go.Proofs.YtkcgdnnipohehaaGreatDoor

/- Free shapes, parents of shapes, congruent shapes: plain. -/
namespace Go.Proofs.YtkcgdnnipohehaaGreatDoor
open Go.RowKit
set_option linter.unusedVariables false
/-- The first among its results under some motions. -/
def leastV (s : List C) (k : Nat) : Bool := (List.range k).all fun m => !ltS (turnV s m) s
theorem leastV_succ (s : List C) (k : Nat) : leastV s (k + 1) = (leastV s k && !ltS (turnV s k) s) := by
  unfold leastV
  rw [List.range_succ, List.all_append]
  simp
def frV (l : List (List C)) (k : Nat) : List (List C) := l.filter fun s => leastV s k
def orSum (l : List (List C)) : Nat := (l.map fun s => (orV s).length).sum
theorem or_sum_all : ((List.range 4).all fun j => frcL (fixF j) fun F => orSum (frV F 8) == F.length) = true := by decide +kernel
/-- Free shapes stand for all, each as often as it has orientations. -/
theorem or_sum {j : Nat} (h : j < 4) : orSum (frV (fixV j) 8) = (fixV j).length := by
  have h0 := or_sum_all
  rw [List.all_eq_true] at h0
  have h1 := h0 j (List.mem_range.2 h)
  rw [frcL_eq, fixF_eq, beq_iff_eq] at h1
  exact h1
/-! ## Parents -/
def dropC (s : List C) (i : Nat) : List C := s.take i ++ s.drop (i + 1)
noncomputable def parTo (s : List C) : Nat → List (List C)
  | 0 => []
  | k + 1 => if isConn (dropC s k) then putG ltS (parTo s k) (cornI (dropC s k)) else parTo s k
noncomputable def parV (s : List C) : List (List C) := if isShape s then parTo s s.length else []
theorem dropC_sub (s : List C) (i : Nat) : (dropC s i).Sublist s := by
  unfold dropC
  have h := List.Sublist.append (List.Sublist.refl (s.take i)) (List.drop_sublist_drop_left s (Nat.le_succ i))
  rwa [List.take_append_drop] at h
theorem dropC_len {s : List C} {i : Nat} (h : i < s.length) : (dropC s i).length = s.length - 1 := by
  unfold dropC
  rw [List.length_append, List.length_take, List.length_drop]
  omega
/-- What is left of a shape is one, or nothing. -/
theorem dropC_shape {s : List C} (hs : isShape s = true) {i : Nat} (h : i < s.length) (h2 : 2 ≤ s.length) : isShape (dropC s i) = true := by
  have hl := dropC_len h
  have hsl := shape_len hs
  exact shape_of ((isShape_inc hs).sublist (dropC_sub s i)) (fun c hc => shape_onB hs c ((dropC_sub s i).subset hc)) (by omega) (by omega)
theorem corn_conn {s : List C} (h : isConn s = true) : isShape (cornI s) = true := by
  have hs := conn_shape h
  exact corn_shape (shape_nodup hs) (shape_onB hs) (shape_len hs).1 (shape_len hs).2
theorem parTo_fine (s : List C) : ∀ k, FineF (parTo s k)
  | 0 => FineF.nil
  | k + 1 => by
    unfold parTo
    split
    · next h => exact (parTo_fine s k).put (corn_conn h)
    · exact parTo_fine s k
theorem parTo_mem (s : List C) : ∀ k x, x ∈ parTo s k ↔ ∃ i, i < k ∧ isConn (dropC s i) = true ∧ x = cornI (dropC s i)
  | 0, x => by simp [parTo]
  | k + 1, x => by
    unfold parTo
    split
    · next h =>
      rw [(putG_inc ltS_sto (parTo_fine s k).1 _).2, parTo_mem s k]
      constructor
      · rintro (⟨i, h1, h2⟩ | h2)
        · exact ⟨i, by omega, h2⟩
        · exact ⟨k, by omega, h, h2⟩
      · rintro ⟨i, h1, h2, h3⟩
        by_cases e : i = k
        · subst e; exact .inr h3
        · exact .inl ⟨i, by omega, h2, h3⟩
    · next h =>
      rw [parTo_mem s k]
      constructor
      · rintro ⟨i, h1, h2⟩
        exact ⟨i, by omega, h2⟩
      · rintro ⟨i, h1, h2, h3⟩
        by_cases e : i = k
        · subst e; exact absurd h2 h
        · exact ⟨i, by omega, h2, h3⟩
theorem parTo_len (s : List C) : ∀ k, (parTo s k).length ≤ k
  | 0 => by simp [parTo]
  | k + 1 => by
    have ih := parTo_len s k
    unfold parTo
    split
    · have := putG_len (lt := ltS) (parTo s k) (cornI (dropC s k))
      omega
    · omega
theorem extV_from {s x : List C} (h : x ∈ extV s) : ∃ d, extP s x d := by
  unfold extV extTo at h
  rw [foldExt_mem s _ FineF.nil] at h
  rcases h with h | ⟨d, _, h⟩
  · simp at h
  · exact ⟨d, h⟩
/-- A shape is a parent of what grows out of it. -/
theorem parent {s t : List C} (hc : isConn s = true) (ht : t ∈ extV s) : cornI s ∈ parV t := by
  obtain ⟨d, hd, hsh, rfl⟩ := extV_from ht
  have hs := conn_shape hc
  have hsl := shape_len hs
  have hdn : d ∉ s := fun h => by rw [(hasC_iff2 s d).2 h] at hd; cases hd
  have hnd : (s ++ [d]).Nodup := by
    rw [List.nodup_append]
    refine ⟨shape_nodup hs, by simp, fun a ha b hb e => ?_⟩
    rw [List.mem_singleton] at hb
    rw [e, hb] at ha
    exact hdn ha
  have htl : (cornI (s ++ [d])).length = s.length + 1 := by rw [cornI_len_nd hnd]; simp
  have htm := cornI_mem (s ++ [d])
  obtain ⟨u, hu⟩ : ∃ u, minC (·.1) (s ++ [d]) = u := ⟨_, rfl⟩
  obtain ⟨v, hv⟩ : ∃ v, minC (·.2) (s ++ [d]) = v := ⟨_, rfl⟩
  rw [hu, hv] at htm
  obtain ⟨t, hteq⟩ : ∃ t, cornI (s ++ [d]) = t := ⟨_, rfl⟩
  rw [hteq] at hsh htl htm ⊢
  have e0 : ((d.1 - u + u, d.2 - v + v) : C) = d := Prod.ext (by simp only; omega) (by simp only; omega)
  have hdt : ((d.1 - u, d.2 - v) : C) ∈ t := by
    rw [htm, e0]
    simp
  obtain ⟨i, hi, hie⟩ := List.mem_iff_getElem.1 hdt
  have hinc := isShape_inc hsh
  have hdm : ∀ c, c ∈ dropC t i ↔ c ∈ t ∧ c ≠ t[i] := by
    intro c
    have hn := inc_nodup hinc
    have e1 : t = t.take i ++ (t[i] :: t.drop (i + 1)) := by rw [← List.drop_eq_getElem_cons hi, List.take_append_drop]
    have hn2 := hn
    rw [e1, List.nodup_append, List.nodup_cons] at hn2
    unfold dropC
    rw [List.mem_append]
    constructor
    · rintro (h | h)
      · exact ⟨List.mem_of_mem_take h, fun e => hn2.2.2 c h t[i] (List.mem_cons_self ..) e⟩
      · exact ⟨List.mem_of_mem_drop h, fun e => hn2.2.1.1 (e ▸ h)⟩
    · rintro ⟨h, hne⟩
      rw [e1, List.mem_append, List.mem_cons] at h
      rcases h with h | h | h
      · exact .inl h
      · exact absurd h hne
      · exact .inr h
  have heq : dropC t i = mv s (-u) (-v) := by
    refine incG_eq befC_sto _ _ (hinc.sublist (dropC_sub t i)) (mv_inc (isShape_inc hs) _ _) fun c => ?_
    have e2 : ((c.1 - -u, c.2 - -v) : C) = (c.1 + u, c.2 + v) := Prod.ext (by simp only; omega) (by simp only; omega)
    rw [hdm, htm, mv_mem, hie, e2, List.mem_append, List.mem_singleton]
    constructor
    · rintro ⟨h | h, hne⟩
      · exact h
      · exact absurd (show c = (d.1 - u, d.2 - v) by rw [← h]; exact Prod.ext (by simp only; omega) (by simp only; omega)) hne
    · intro h
      refine ⟨.inl h, fun e => hdn ?_⟩
      rw [e] at h
      simp only [Int.sub_add_cancel] at h
      exact h
  have hds : isShape (dropC t i) = true := dropC_shape hsh hi (by omega)
  have hml : ∀ c : C, c ∈ mv s (-u) (-v) ↔ ((c.1 - -u, c.2 - -v) : C) ∈ s := fun c => mv_mem ..
  have hcn : isConn (dropC t i) = true := by
    unfold isConn at hc ⊢
    rw [hds, Bool.true_and, heq]
    rw [Bool.and_eq_true] at hc
    have key : conn (mv s (-u) (-v)) = conn s := conn_map (s := s) (t := mv s (-u) (-v)) (fun c => ((c.1 + -u, c.2 + -v) : C)) (fun a b => by
      unfold near
      refine decide_eq_decide.2 ?_
      simp only
      constructor <;> intro h <;> omega) (fun a b e => by
      simp only [Prod.mk.injEq] at e
      exact Prod.ext (by omega) (by omega)) (fun c => by
      rw [hml]
      constructor
      · intro h
        refine ⟨(c.1 - -u, c.2 - -v), h, ?_⟩
        exact Prod.ext (by simp only; omega) (by simp only; omega)
      · rintro ⟨b, hb, rfl⟩
        have e5 : ((b.1 + -u - -u, b.2 + -v - -v) : C) = b := Prod.ext (by simp only; omega) (by simp only; omega)
        simp only [e5]
        exact hb) (by omega) (by rw [mv_len]; omega)
    rw [key]
    exact hc.2
  have hco : cornI (dropC t i) = cornI s := by
    rw [heq]
    exact cornI_same (by omega) (by rw [mv_len]; omega) (-u) (-v) hml
  unfold parV
  rw [if_pos hsh, parTo_mem]
  exact ⟨i, hi, hcn, hco.symm⟩
/-! ## Congruent shapes -/
def canS (s : List C) : List C := (orV s).headD []
def congB (a b : List C) : Bool := (isShape a && isShape b) && decide (canS a = canS b)
end Go.Proofs.YtkcgdnnipohehaaGreatDoor

/- Pieces and their names, shapes written and read: plain. -/
namespace Go.Proofs.YtkcgdnnipohehaaGreatDoor
open Go.RowKit
set_option linter.unusedVariables false
/-! ## The reference's writing and reading -/
def fYs : Nat → ByteArray → Nat → ByteArray × Nat
  | 0, t, x => (t, x)
  | k + 1, t, _ => fYs k (t ++ ⟨#[47]⟩) 0
def fXs : Nat → ByteArray → ByteArray
  | 0, t => t
  | k + 1, t => fXs k (t ++ ⟨#[46]⟩)
/-- One cell written: the text, the place behind it, the row. -/
def fCs (s : ByteArray × Nat × Nat) (c : C) : ByteArray × Nat × Nat :=
  (fXs (c.1.toNat - (fYs (c.2.toNat - s.2.2) s.1 s.2.1).2) (fYs (c.2.toNat - s.2.2) s.1 s.2.1).1 ++ ⟨#[35]⟩, max (fYs (c.2.toNat - s.2.2) s.1 s.2.1).2 c.1.toNat + 1, max s.2.2 c.2.toNat)
def fmtTo (l : List C) (k : Nat) : ByteArray × Nat × Nat := (l.take k).foldl fCs (⟨#[]⟩, 0, 0)
def fmtS (l : List C) : ByteArray := (fmtTo l l.length).1
theorem fmtTo_succ (l : List C) (k : Nat) (h : k < l.length) : fmtTo l (k + 1) = fCs (fmtTo l k) l[k] := by
  unfold fmtTo
  rw [List.take_succ_eq_append_getElem h, List.foldl_append]
  rfl
/-- One letter read: the place, the row, the cells. -/
def pCs (s : Nat × Nat × List C) (b : UInt8) : Nat × Nat × List C :=
  if b = 35 then (s.1 + 1, s.2.1, s.2.2 ++ [((s.1 : Int), (s.2.1 : Int))]) else if b = 46 then (s.1 + 1, s.2.1, s.2.2) else (0, s.2.1 + 1, s.2.2)
def parsTo (l : List UInt8) (k : Nat) : Nat × Nat × List C := (l.take k).foldl pCs (0, 0, [])
def parsV (t : ByteArray) : List C := (parsTo t.data.toList t.data.toList.length).2.2
theorem parsTo_succ (l : List UInt8) (k : Nat) (h : k < l.length) : parsTo l (k + 1) = pCs (parsTo l k) l[k] := by
  unfold parsTo
  rw [List.take_succ_eq_append_getElem h, List.foldl_append]
  rfl
/-! ## The program's -/
/-- The pieces of a text between its slashes. -/
def rowsT (t : ByteArray) : List ByteArray := Lib.splitB ⟨#[47]⟩ 0 (Lib.countB t ⟨#[47]⟩) t
def pRow (y : Nat) (row : List UInt8) (xs : List C) : Nat → List C
  | 0 => xs
  | k + 1 => if row.getD k 0 = 35 ∧ (pRow y row xs k).length ≤ 8 then pRow y row xs k ++ [((k : Int), (y : Int))] else pRow y row xs k
def pRows (P : List ByteArray) : Nat → List C
  | 0 => []
  | k + 1 => pRow k (P.getD k ⟨#[]⟩).data.toList (pRows P k) (P.getD k ⟨#[]⟩).size
def extW (l : List C) (k : Nat) : Int := (l.take k).foldl (fun a c => max a (c.1 + 1)) 0
def extH (l : List C) (k : Nat) : Int := (l.take k).foldl (fun a c => max a (c.2 + 1)) 0
theorem extW_succ (l : List C) (k : Nat) (h : k < l.length) : extW l (k + 1) = max (extW l k) (l[k].1 + 1) := by
  unfold extW
  rw [List.take_succ_eq_append_getElem h, List.foldl_append]
  rfl
theorem extH_succ (l : List C) (k : Nat) (h : k < l.length) : extH l (k + 1) = max (extH l k) (l[k].2 + 1) := by
  unfold extH
  rw [List.take_succ_eq_append_getElem h, List.foldl_append]
  rfl
/-- What one cell adds to its row. -/
def addB (r : ByteArray) (x : Int) : ByteArray := r ++ (⟨(Lib.repeatL [46] (x - (r.size : Int)).toNat).toArray⟩ ++ ⟨#[35]⟩)
def rTo (h : Nat) (l : List C) : Nat → List ByteArray
  | 0 => List.replicate h ⟨#[]⟩
  | k + 1 => (rTo h l k).set (l.getD k (0, 0)).2.toNat (addB ((rTo h l k).getD (l.getD k (0, 0)).2.toNat ⟨#[]⟩) (l.getD k (0, 0)).1)
theorem rTo_len (h : Nat) (l : List C) : ∀ k, (rTo h l k).length = h
  | 0 => by simp [rTo]
  | k + 1 => by unfold rTo; rw [List.length_set, rTo_len h l k]
/-- Each cell lies behind what its row holds. -/
def rOk (h : Nat) (l : List C) : Bool := (List.range l.length).all fun k => decide (0 ≤ (l.getD k (0, 0)).2) && (decide ((l.getD k (0, 0)).2 < (h : Int)) && (decide ((((rTo h l k).getD (l.getD k (0, 0)).2.toNat ⟨#[]⟩).size : Int) ≤ (l.getD k (0, 0)).1) && decide ((l.getD k (0, 0)).1 ≤ 7)))
def fmtI (l : List C) : ByteArray := ⟨(Lib.join ((rTo (extH l l.length).toNat l l.length).map (·.data.toList)) [47]).toArray⟩
/-! ## The pieces -/
def nmL : List ByteArray := [⟨#[73, 50]⟩, ⟨#[73, 51]⟩, ⟨#[86, 51]⟩, ⟨#[73, 52]⟩, ⟨#[76, 52]⟩, ⟨#[84, 52]⟩, ⟨#[83, 52]⟩, ⟨#[79, 52]⟩, ⟨#[88, 53]⟩, ⟨#[80, 53]⟩, ⟨#[87, 53]⟩, ⟨#[85, 53]⟩]
def txL : List ByteArray := [⟨#[35, 35]⟩, ⟨#[35, 35, 35]⟩, ⟨#[35, 35, 47, 35]⟩, ⟨#[35, 35, 35, 35]⟩, ⟨#[35, 35, 35, 47, 35]⟩, ⟨#[35, 35, 35, 47, 46, 35]⟩, ⟨#[46, 35, 35, 47, 35, 35]⟩, ⟨#[35, 35, 47, 35, 35]⟩, ⟨#[46, 35, 47, 35, 35, 35, 47, 46, 35]⟩, ⟨#[35, 35, 47, 35, 35, 47, 35]⟩, ⟨#[35, 47, 35, 35, 47, 46, 35, 35]⟩, ⟨#[35, 46, 35, 47, 35, 35, 35]⟩]
def pcL : List (List C) := txL.map parsV
/-- The number of a name. -/
def nameI (t : ByteArray) : Nat := nmL.findIdx (fun u => decide (u = t))
/-- The number of a piece. -/
def pieceI (s : List C) : Nat := pcL.findIdx (congB s)
def nameV (s : List C) : ByteArray := nmL.getD (pieceI s) ⟨#[]⟩
def goodB (b : UInt8) : Bool := b == 35 || b == 46 || b == 47
/-- All that a text of a piece must have. -/
def txOk (t : ByteArray) : Bool := decide (1 ≤ t.size) && decide (t.size ≤ 9) && (t.data.toList.all goodB && (isShape (parsV t) && decide (fmtS (cornS (parsV t)) = t)))
theorem tx_ok : txL.all txOk = true := by decide +kernel
def txOkI (t : ByteArray) : Bool := decide (pRows (rowsT t) (rowsT t).length = parsV t) && ((rowsT t).all (fun r => decide (r.size ≤ 9)) && (decide ((rowsT t).length ≤ 9) && (decide (Lib.countB t ⟨#[47]⟩ + 1 = (rowsT t).length) && (rOk (extH (cornI (parsV t)) (cornI (parsV t)).length).toNat (cornI (parsV t)) && decide (fmtI (cornI (parsV t)) = t)))))
theorem tx_okI : txL.all txOkI = true := by decide +kernel
def pcOk : Bool := (List.range 12).all fun k => (nameI (nmL.getD k ⟨#[]⟩) == k) && (pieceI (pcL.getD k []) == k)
theorem pc_ok : pcOk = true := by decide +kernel
end Go.Proofs.YtkcgdnnipohehaaGreatDoor

/- append at this translation's element types: cells, integers. -/
namespace Go.Proofs.YtkcgdnnipohehaaGreatDoor
open Go.RowKit
set_option linter.unusedVariables false

theorem infoC : (Tryz.prog.info? 87).map (fun i => (i.zero, i.size, i.bytes)) = some (some (.agg #[.int .i64 0, .int .i64 0]), 2, 16) := by kernel_rfl
/-- Two cells are equal where both numbers are. -/
theorem eq_cell (w : World) (a b c d : Int) : (binOp .eql 87 (.agg #[.int .i64 a, .int .i64 b]) (.agg #[.int .i64 c, .int .i64 d])).run Tryz.prog w = .ok (.bool (a == c && b == d)) w := by
  simp [go_sem]
  by_cases h1 : a = c <;> by_cases h2 : b = d <;> simp [h1, h2]
theorem neq_cell (w : World) (a b c d : Int) : (binOp .neq 87 (.agg #[.int .i64 a, .int .i64 b]) (.agg #[.int .i64 c, .int .i64 d])).run Tryz.prog w = .ok (.bool (!(a == c && b == d))) w := by
  simp [go_sem]
  by_cases h1 : a = c <;> by_cases h2 : b = d <;> simp [h1, h2]
attribute [go_sem ↓ 2000] eq_cell neq_cell

section
variable (w : World) {ops : Array Oper} {rest : List Oper} {o : Oper} {a : Act} {Q : Exit → Act → World → Prop}
theorem app_C (hgd : o.guard = none) (s x : Operand) (ho : o.op = .call { callee := .builtin .append, args := #[s, x], argTypes := #[52, 52] })
    (base : Nat) (A : Option Addr) (n c : Nat) (l : List C) (hs : a.eval s = .slice A n c) (hown : w.ownsRow base 87 2 (.slice A n c) n (vC l))
    (A2 : Option Addr) (m c2 : Nat) (l2 : List C) (hx : a.eval x = .slice A2 m c2) (hr : Rd w A2 (vC l2)) (hl : l2.length = m) (hb : n + m ≤ 1099511627776) (hbase : base ≤ w.heap.size)
    (h : ∀ A' c' w', w'.ownsRow base 87 2 (.slice A' (n + m) c') (n + m) (vC (l ++ l2)) → w.grownBy w' (ob A) → (ob A' = ob A ∨ ob A' = some w.heap.size) → wpList Tryz.prog ops Q rest (a.put o.dst (.slice A' (n + m) c')) w') :
    wpList Tryz.prog ops Q (o :: rest) a w := by
  obtain ⟨i0, hi, hz0, hz1, hz2⟩ := info_parts infoC
  refine wpList_app w hgd s x _ ho base _ i0 _ 2 16 Tryz.underlying52 hi hz0 hz1 hz2 rfl (by omega) A n c _ hs hown A2 m c2 _ hx hr (by rw [vC_length, hl]) (vC_one _) (by unfold maxLen; omega) (by omega) hbase ?_
  intro A' c' w' h1
  rw [← vC_append] at h1
  exact h A' c' w' h1
end
end Go.Proofs.YtkcgdnnipohehaaGreatDoor

/- append at bytes, inside a region that draws its order too; bytes made a string. -/
namespace Go.Proofs.YtkcgdnnipohehaaGreatDoor
open Go.RowKit
set_option linter.unusedVariables false
section
variable (w : World) {ops : Array Oper} {rest : List Oper} {o : Oper} {a : Act} {Q : Exit → Act → World → Prop}
end
end Go.Proofs.YtkcgdnnipohehaaGreatDoor

/- Blocks of integers and of cells: made, written element by element, owned. -/
namespace Go.Proofs.YtkcgdnnipohehaaGreatDoor
open Go.RowKit
set_option linter.unusedVariables false

theorem vC_set_list (xs : List C) (k : Nat) (v : C) : ((vC xs).set (k * 2) (.int .i64 v.1)).set (k * 2 + 1) (.int .i64 v.2) = vC (xs.set k v) := by
  induction xs generalizing k with
  | nil => simp [vC]
  | cons p t ih =>
    cases k with
    | zero => simp [vC]
    | succ k =>
      rw [show (k + 1) * 2 = k * 2 + 1 + 1 from by omega]
      simp [vC, ih k]
section
variable {w w' : World} {g : Nat} {t : TypeId}
theorem own_at {base size n c : Nat} {A : Option Addr} {xs : List Value} (h : w.ownsRow base t size (.slice A n c) n xs) (hn : 0 < n) : ∃ g, A = some ⟨g, 0, none⟩ ∧ base ≤ g ∧ g < w.heap.size := by
  rcases h.2 with ⟨_, rfl⟩ | ⟨g, cap, cur, hv, hb, hg, _⟩
  · omega
  · injection hv with hA
    exact ⟨g, hA, hb, (Array.getElem?_eq_some_iff.1 hg).1⟩
theorem grown_set {a w : World} {row : Option Nat} (h : a.grownBy w row) {p : Addr} (hp : row = some p.block) (u : Value) : a.grownBy (w.setCell p u) row :=
  ⟨h.os, h.tape, h.output, by simpa [World.setCell] using h.size, fun k hk hne => by
    rw [Below.heap_setCell w p u k (by rintro rfl; exact hne hp.symm)]; exact h.block k hk hne⟩
theorem grown_below {a w w' : World} {row : Option Nat} (h : a.grownBy w row) (hb : Below w.heap.size w w') : a.grownBy w' row :=
  ⟨hb.os.trans h.os, hb.tape.trans h.tape, hb.output.trans h.output, Nat.le_trans h.size hb.size, fun k hk hne => (hb.block k (Nat.lt_of_lt_of_le hk h.size)).trans (h.block k hk hne)⟩
end

/-- Zeros. -/
def zeI (n : Nat) : List Int := List.replicate n 0
def zeC (n : Nat) : List C := List.replicate n (0, 0)
def zeS (n : Nat) : List H := List.replicate n (none, 0, 0)
/-- k, k + 1, .. -/
def io (k : Int) (n : Nat) : List Int := (List.range n).map fun (i : Nat) => k + (i : Int)
end Go.Proofs.YtkcgdnnipohehaaGreatDoor

/- A region that draws its order, whose operations read and whose callees may make memory of their own: one walk of the lexical order, in every world that is as the first one below its heap's end. -/
namespace Go.Proofs.YtkcgdnnipohehaaGreatDoor
open Go.RowKit
section
variable {P : Program} {C : World → Prop} {K : Act → Prop} {a : Act} {o : Oper}
theorem wp_region_below {id : Nat} {Q : Exit → Act → World → Prop} {w : World} {l : List Oper} (hm : P.follows .mixedOrders = true) (hB : Region.lexB .any l.toArray = true)
    (h : wpQuiet P l.toArray (fun w' => Below w.heap.size w w') (fun a' => ∀ w', Below w.heap.size w w' → Q .normal a' w') l a) : (Code.region id l.toArray true).wp P Q a w :=
  wp_region_quiet (C := fun w' => Below w.heap.size w w') hm hB ⟨rfl, rfl, rfl, Nat.le_refl _, fun _ _ => rfl⟩ (by simpa using h)
theorem quietV {ops : Array Oper} {Q : Act → Prop} {rest : List Oper} {ts : Array Value} {ds : List Deferred} {v : Value} {d : Nat} (hw : Region.wanted o (yielded ops ts) = true) (hd : o.dst = some d) (h1 : ∀ w', C w' → o.quietAt P { tmps := ts, defers := ds } C w' v)
    (h2 : wpQuiet P ops C Q rest { tmps := ts.setIfInBounds d v, defers := ds }) : wpQuiet P ops C Q (o :: rest) { tmps := ts, defers := ds } :=
  wpQuiet_step fun K hK => by rw [if_pos hw]; exact ⟨v, h1, by rw [hd]; exact hK _ h2⟩
theorem callsB {f : FuncId} {args : Array Value} {w w' : World} {v : Value} (h : Calls P f args w' (Ret w' v)) (hb : Below w.heap.size w w') :
    Calls P f args w' (fun e w'' => e = .returned v ∧ Below w.heap.size w w'') := h.mono fun _ _ ⟨he, h2⟩ => ⟨he, bel_trans hb h2⟩
theorem callsBB {f : FuncId} {args : Array Value} {w w' : World} {b b' : Bool} (h : Calls P f args w' (Ret w' (.bool b))) (e : b = b') (hb : Below w.heap.size w w') :
    Calls P f args w' (fun e w'' => e = .returned (.bool b') ∧ Below w.heap.size w w'') := by subst e; exact callsB h hb
end
end Go.Proofs.YtkcgdnnipohehaaGreatDoor

/- Regions, masks and motions of a grid: plain functions. No program is in sight. -/
namespace Go.Proofs.YtkcgdnnipohehaaGreatDoor
open Go.RowKit
set_option linter.unusedVariables false
/-- A region that is right. -/
def isReg (W : Int) (rows : List Int) : Bool :=
  ((decide (1 ≤ W) && decide (W ≤ 6)) && (decide (1 ≤ (rows.length : Int)) && decide ((rows.length : Int) ≤ 6))) && rows.all (fun x => decide (0 ≤ x) && decide (x < 2 ^ W.toNat))
/-- The mask of the rows below k. -/
def mkTo (n : Nat) (rows : List Int) : Nat → Nat
  | 0 => 0
  | k + 1 => mkTo n rows k + (rows.getD k 0).toNat * 2 ^ (k * n)
theorem wraps_i64 (n : Int) (h₀ : 0 ≤ n) (h₁ : n < 2 ^ 63) : IntKind.i64.wrap n = n := by rw [IntKind.wrap_i64]; omega
theorem i64_and (a b : Nat) (ha : a < 2 ^ 63) (hb : b < 2 ^ 63) : bits .and .i64 (a : Int) (b : Int) = ((a &&& b : Nat) : Int) := (bits_nat .i64 63 (by decide) wraps_i64 a b ha hb).1
theorem bit_and (m k : Nat) : m / 2 ^ k % 2 = (m.testBit k).toNat := by
  rw [Nat.testBit_eq_decide_div_mod_eq]
  rcases Nat.mod_two_eq_zero_or_one (m / 2 ^ k) with h | h <;> simp [h]
/-- A quarter turn: width, height, place. -/
abbrev Q4 := Int × Int × Int × Int
def quarter (q : Q4) : Q4 := (q.2.1, q.1, q.2.1 - 1 - q.2.2.2, q.2.2.1)
def rot : Nat → Q4 → Q4
  | 0, q => q
  | k + 1, q => quarter (rot k q)
def okQ (q : Q4) : Prop := 1 ≤ q.1 ∧ q.1 ≤ 6 ∧ 1 ≤ q.2.1 ∧ q.2.1 ≤ 6 ∧ 0 ≤ q.2.2.1 ∧ q.2.2.1 < q.1 ∧ 0 ≤ q.2.2.2 ∧ q.2.2.2 < q.2.1
/-- Where a motion carries a place. -/
def startQ (w h x y : Int) (m : Nat) : Q4 := (w, h, if 4 ≤ m then w - 1 - x else x, y)
def carry (w h x y : Int) (m : Nat) : Q4 := rot (m % 4) (startQ w h x y m)
/-- The number of the place where a motion carries place i of a grid. -/
def pos (n h m i : Nat) : Nat := ((carry n h ((i % n : Nat) : Int) ((i / n : Nat) : Int) m).2.2.2 * n + (carry n h ((i % n : Nat) : Int) ((i / n : Nat) : Int) m).2.2.1).toNat
def goesM (n h m : Nat) : Bool := m % 2 == 0 || n == h
def posOk (n h m : Nat) : Bool := !goesM n h m || ((List.range (n * h)).map (pos n h m)).Nodup && (List.range (n * h)).all fun i => decide (pos n h m i < n * h)
/-- The mask that a motion makes of the places below k. -/
def turnTo (n h m mask : Nat) : Nat → Nat
  | 0 => 0
  | k + 1 => turnTo n h m mask k + (if mask.testBit k then 2 ^ pos n h m k else 0)
end Go.Proofs.YtkcgdnnipohehaaGreatDoor

/- The reference's draws: numbers below a bound, out of bytes. -/
namespace Go.Proofs.YtkcgdnnipohehaaGreatDoor
open Go.RowKit
set_option linter.unusedVariables false
attribute [local go_sem ↓] Go.wp_at_zero Go.wp_at_succ
/-- A cursor over bytes. -/
structure Cur (w : World) (g : Nat) (A : Option Addr) (n c : Nat) (bs : List UInt8) : Prop where
  blk : ∃ (i : Nat) (h : Int), i ≤ n ∧ Blk w g 107 #[.slice A n c, .int .i64 (i : Int), .int .i64 h]
  rd : Rd w A (vB bs)
  len : bs.length = n
  ne : 0 < n → ob A ≠ some g
theorem Cur.below {w w' : World} {g : Nat} {A : Option Addr} {n c : Nat} {bs : List UInt8} (h : Cur w g A n c bs) (hb : Below w.heap.size w w') : Cur w' g A n c bs := by
  obtain ⟨i, x, hi, hB⟩ := h.blk
  exact ⟨⟨i, x, hi, hB.below hb⟩, h.rd.below hb, h.len, h.ne⟩
theorem and255 (x : Int) : ∃ q : Nat, bits .and .i64 x 255 = (q : Int) ∧ q < 256 := by
  refine ⟨(BitVec.ofInt 64 x &&& BitVec.ofInt 64 255).toNat, ?_, ?_⟩
  · show IntKind.i64.wrap ((BitVec.ofInt 64 x &&& BitVec.ofInt 64 255).toNat : Int) = _
    have hlt : (BitVec.ofInt 64 x &&& BitVec.ofInt 64 255).toNat ≤ 255 := by
      rw [BitVec.toNat_and]
      exact Nat.le_trans Nat.and_le_right (by decide)
    exact Go.IntWalk.i64_in _ (by omega)
  · have hlt : (BitVec.ofInt 64 x &&& BitVec.ofInt 64 255).toNat ≤ 255 := by
      rw [BitVec.toNat_and]
      exact Nat.le_trans Nat.and_le_right (by decide)
    omega
theorem RdB.at_ {w : World} {A : Option Addr} {xs : List UInt8} (h : Rd w A (vB xs)) {k : Nat} (hk : k < xs.length) : ∃ g off, A = some ⟨g, off, none⟩ ∧ g < w.heap.size ∧ w.cell? ⟨g, off + k, none⟩ = some (.int .u8 (xs[k].toNat : Nat)) := by
  rcases h with h | ⟨g, off, rfl, h⟩
  · have h2 := congrArg List.length h
    simp [vB] at h2
    subst h2
    simp at hk
  · have h2 := h k (.int .u8 (xs[k].toNat : Nat)) (by simp [vB, List.getElem?_eq_getElem hk])
    exact ⟨g, off, rfl, World.block_lt_of_cell? w _ h2, h2⟩
theorem Cur.set_ {w : World} {g : Nat} {A : Option Addr} {n c : Nat} {bs : List UInt8} (h : Cur w g A n c bs) {cs : Array Value} {k : Nat} {u : Value} (hB : Blk w g 107 cs) (hk : ∃ (i : Nat) (h : Int), i ≤ n ∧ cs.setIfInBounds k u = #[.slice A n c, .int .i64 (i : Int), .int .i64 h]) : Cur (w.setCell ⟨g, k, none⟩ u) g A n c bs := by
  obtain ⟨i, x, hi, hx⟩ := hk
  refine ⟨⟨i, x, hi, hx ▸ hB.set_ k u⟩, ?_, h.len, h.ne⟩
  by_cases h0 : 0 < n
  · rcases h.rd with h1 | ⟨g', off, rfl, h1⟩
    · exact .inl h1
    · refine .inr ⟨g', off, rfl, fun j v hv => (World.cell?_setCell_other w _ _ u (fun e => h.ne h0 ?_)).trans (h1 j v hv)⟩
      simp only [Addr.mk.injEq] at e
      simp [ob, e.1]
  · left
    have := h.len
    rw [List.eq_nil_of_length_eq_zero (by omega : bs.length = 0)]
    rfl
/-- A number below a bound was drawn. -/
def RetDraw (w : World) (g : Nat) (A : Option Addr) (n c : Nat) (bs : List UInt8) (m : Nat) (e : Ending) (w' : World) : Prop :=
  ∃ q : Nat, e = .returned (.int .i64 (q : Int)) ∧ q < m ∧ Cur w' g A n c bs ∧ w.grownBy w' (some g)
def RetCur (w : World) (A : Option Addr) (n c : Nat) (bs : List UInt8) (e : Ending) (w' : World) : Prop :=
  ∃ g, e = .returned (.pointer (some ⟨g, 0, none⟩)) ∧ Cur w' g A n c bs ∧ w.heap.size ≤ g ∧ Below w.heap.size w w'
set_option maxHeartbeats 800000 in
theorem l1New_s (A : Option Addr) (n c : Nat) (bs : List UInt8) (w : World) (hr : Rd w A (vB bs)) (hl : bs.length = n) (hn : n ≤ 1048576) :
    Calls Tryz.prog 55 #[.slice A n c] w (RetCur w A n c bs) := by
  have HR := Lib.hid hr
  have HL := Lib.hid hl
  clear hr hl
  go_enter Tryz.func55, Tryz.ntmps55
  go_wp2_with fail
  go_loopw [4, 3] (fun e4 e3 wr => ∃ (i : Nat) (h : Int), i ≤ n ∧ e4 = .int .i64 i ∧ e3 = .int .i64 h ∧ Below w.heap.size w wr) (fun e4 _ _ => n - (intOf e4).toNat)
  case atStart => exact ⟨0, _, Nat.zero_le _, rfl, rfl, Below.refl _ _⟩
  case round =>
    obtain ⟨i, h, hi, rfl, rfl, hb⟩ := hrel
    have HB := Lib.hid hb
    clear hb
    by_cases hlt : i < n
    · have hi0 : (0 : Int) ≤ (i : Int) := by omega
      have hi1 : (i : Int) < (n : Int) := by omega
      by_cases h4 : i < 4000
      · have h41 : (i : Int) < 4000 := by omega
        have hil : i < bs.length := by rw [HL.out]; exact hlt
        obtain ⟨g, off, hA, hg, d1⟩ := RdB.at_ (HR.out.below HB.out) hil
        obtain ⟨b, hb⟩ : ∃ b, bs[i] = b := ⟨_, rfl⟩
        rw [hb] at d1
        have ebb : IntKind.i64.wrap (b.toNat : Int) = (b.toNat : Int) := Go.IntWalk.i64_in _ (by have := b.toNat_lt; omega)
        obtain ⟨a1, ha1⟩ : ∃ a1, IntKind.i64.wrap (h * 131) = a1 := ⟨_, rfl⟩
        obtain ⟨a2, ha2⟩ : ∃ a2, IntKind.i64.wrap (a1 + (b.toNat : Int)) = a2 := ⟨_, rfl⟩
        obtain ⟨a3, ha3⟩ : ∃ a3, IntKind.i64.wrap (a2 + 7) = a3 := ⟨_, rfl⟩
        obtain ⟨a4, ha4⟩ : ∃ a4, bits .and .i64 a3 1073741823 = a4 := ⟨_, rfl⟩
        subst hA
        clear hb
        go_wp2_with fail
        exact ⟨⟨i + 1, a4, by omega, by go_num, rfl, HB.out⟩, by simp [intOf]; omega⟩
      · have h41 : ¬ (i : Int) < 4000 := by omega
        go_wp2_with fail
        go_ret
        have hA : 0 < n → ob A ≠ some wr.heap.size := fun _ e => by
          obtain ⟨g, off, hA, hg, d1⟩ := RdB.at_ (HR.out.below HB.out) (show 0 < bs.length by rw [HL.out]; omega)
          subst hA
          simp only [ob, Option.map_some, Option.some.injEq] at e
          omega
        exact ⟨_, rfl, ⟨⟨0, h, Nat.zero_le _, Blk.new _ _ _⟩, (HR.out.below HB.out).alloc _, HL.out, hA⟩, HB.out.size, bel_alloc HB.out _⟩
    · obtain rfl : i = n := by omega
      have hi1 : ¬ (i : Int) < (i : Int) := by omega
      go_wp2_with fail
      go_ret
      have hA : 0 < i → ob A ≠ some wr.heap.size := fun h0 e => by
        obtain ⟨g, off, hA, hg, d1⟩ := RdB.at_ (HR.out.below HB.out) (show 0 < bs.length by rw [HL.out]; omega)
        subst hA
        simp only [ob, Option.map_some, Option.some.injEq] at e
        omega
      exact ⟨_, rfl, ⟨⟨0, h, Nat.zero_le _, Blk.new _ _ _⟩, (HR.out.below HB.out).alloc _, HL.out, hA⟩, HB.out.size, bel_alloc HB.out _⟩
set_option maxHeartbeats 800000 in
theorem l1Byte_s (A : Option Addr) (n c g : Nat) (bs : List UInt8) (w : World) (hc : Cur w g A n c bs) (hn : n ≤ 1048576) :
    Calls Tryz.prog 137 #[.pointer (some ⟨g, 0, none⟩)] w (RetDraw w g A n c bs 256) := by
  obtain ⟨i, h, hi, hB⟩ := hc.blk
  have c0 : w.cell? ⟨g, 0, none⟩ = some (.slice A n c) := by simpa using hB.cell 0
  have c1 : w.cell? ⟨g, 1, none⟩ = some (.int .i64 (i : Int)) := by simpa using hB.cell 1
  have c2 : w.cell? ⟨g, 2, none⟩ = some (.int .i64 h) := by simpa using hB.cell 2
  have f2 := hB.frozen 2
  have hg := hB.lt
  obtain ⟨a1, ha1⟩ : ∃ a1, IntKind.i64.wrap (h * 6364136223846793005) = a1 := ⟨_, rfl⟩
  obtain ⟨a2, ha2⟩ : ∃ a2, IntKind.i64.wrap (a1 + 1442695040888963407) = a2 := ⟨_, rfl⟩
  go_enter Tryz.func137, Tryz.ntmps137
  go_wp2_with fail
  have hB1 := hB.set_ 2 (.int .i64 a2)
  have hC1 := hc.set_ (k := 2) (u := .int .i64 a2) hB ⟨i, a2, hi, rfl⟩
  have hG1 : w.grownBy (w.setCell ⟨g, 2, none⟩ (.int .i64 a2)) (some g) := grown_set (p := ⟨g, 2, none⟩) (World.grownBy.refl _ _) rfl _
  obtain ⟨w1, hw1⟩ : ∃ w1, w.setCell ⟨g, 2, none⟩ (.int .i64 a2) = w1 := ⟨_, rfl⟩
  rw [hw1] at hB1 hC1 hG1 ⊢
  have HG1 := Lib.hid hG1
  have HC1 := Lib.hid hC1
  have HB1 := Lib.hid hB1
  have d0 : w1.cell? ⟨g, 0, none⟩ = some (.slice A n c) := by simpa using hB1.cell 0
  have d1 : w1.cell? ⟨g, 1, none⟩ = some (.int .i64 (i : Int)) := by simpa using hB1.cell 1
  have d2 : w1.cell? ⟨g, 2, none⟩ = some (.int .i64 a2) := by simpa using hB1.cell 2
  have l1 := hB1.lt
  have HI := Lib.hid hi
  clear hw1 c0 c1 c2 f2 hg hB hc hC1 hG1 hB1 ha1 ha2 hi
  (refine wp_region_below (by kernel_rfl) (by kernel_rfl) ?_; (repeat (first | go_big_quiet_skip | (refine quietV (v := ?_) (by rfl) rfl (fun w' hbw => ?_) ?_; rotate_left; ((try dsimp only at hbw); have hbc := (bcell hbw).1; have hbf := (bcell hbw).2; go_simp; first | done | with_reducible rfl | fail); simp only [List.setIfInBounds_toArray, List.set_cons_zero, List.set_cons_succ]))); refine wpQuiet_nil ?_; intro wq hbq)
  obtain ⟨q1, hq1, hlt1⟩ := and255 (bits BinOp.xor IntKind.i64 (a2 / 8589934592) (a2 / 35184372088832))
  have d0 := keep_below hbq d0
  have d1 := keep_below hbq d1
  have d2 := keep_below hbq d2
  have l1 : g < wq.heap.size := Nat.lt_of_lt_of_le l1 hbq.size
  have HBQ := Lib.hid hbq
  rw [hq1]
  clear hq1 hbq
  go_wp2_with fail
  (refine wp_region_below (by kernel_rfl) (by kernel_rfl) ?_; (repeat (first | go_big_quiet_skip | (refine quietV (v := ?_) (by rfl) rfl (fun w' hbw => ?_) ?_; rotate_left; ((try dsimp only at hbw); have hbc := (bcell hbw).1; have hbf := (bcell hbw).2; go_simp; first | done | with_reducible rfl | fail); simp only [List.setIfInBounds_toArray, List.set_cons_zero, List.set_cons_succ]))); refine wpQuiet_nil ?_; intro wp hbp)
  have d0 := keep_below hbp d0
  have d1 := keep_below hbp d1
  have l1 : g < wp.heap.size := Nat.lt_of_lt_of_le l1 hbp.size
  have HBP := Lib.hid (bel_trans HBQ.out hbp)
  clear hbp HBQ d2
  have hgr : ∀ w2 : World, Below w1.heap.size w1 w2 → w.grownBy w2 (some g) := fun w2 h => ⟨h.os.trans HG1.out.os, h.tape.trans HG1.out.tape, h.output.trans HG1.out.output, Nat.le_trans HG1.out.size h.size, fun k hk hn => (h.block k (Nat.lt_of_lt_of_le hk HG1.out.size)).trans (HG1.out.block k hk hn)⟩
  have HGR := Lib.hid @hgr
  clear hgr
  by_cases hlt : i < n
  · have hi1 : (i : Int) < (n : Int) := by omega
    have hi0 : (0 : Int) ≤ (i : Int) := by omega
    have hil : i < bs.length := by rw [HC1.out.len]; exact hlt
    obtain ⟨gb, off, hA, hgb, e1⟩ := RdB.at_ (HC1.out.rd.below HBP.out) hil
    obtain ⟨b, hb⟩ : ∃ b, bs[i] = b := ⟨_, rfl⟩
    rw [hb] at e1
    have hbl := b.toNat_lt
    have ebb : IntKind.i64.wrap (b.toNat : Int) = (b.toNat : Int) := Go.IntWalk.i64_in _ (by omega)
    have eq1 : IntKind.i64.wrap ((q1 : Int) + (b.toNat : Int)) = (q1 : Int) + (b.toNat : Int) := Go.IntWalk.i64_in _ (by omega)
    obtain ⟨q2, hq2, hlt2⟩ := and255 ((q1 : Int) + (b.toNat : Int))
    subst hA
    have HBB := Lib.hid hbl
    clear hb hbl
    go_wp2_with fail
    (refine wp_region_below (by kernel_rfl) (by kernel_rfl) ?_; (repeat (first | go_big_quiet_skip | (refine quietV (v := ?_) (by rfl) rfl (fun w' hbw => ?_) ?_; rotate_left; ((try dsimp only at hbw); have hbc := (bcell hbw).1; have hbf := (bcell hbw).2; go_simp; first | done | with_reducible rfl | fail); simp only [List.setIfInBounds_toArray, List.set_cons_zero, List.set_cons_succ]))); refine wpQuiet_nil ?_; intro wr hbr)
    have HBR := Lib.hid (bel_trans HBP.out hbr)
    have d0 := keep_below hbr d0
    have d1 := keep_below hbr d1
    have l1 : g < wr.heap.size := Nat.lt_of_lt_of_le l1 hbr.size
    have hBr := HB1.out.below HBR.out
    have f1 := hBr.frozen 1
    have ei : IntKind.i64.wrap ((i : Int) + 1) = ((i + 1 : Nat) : Int) := by rw [Go.IntWalk.i64_in _ (by have := HC1.out.len; omega)]; omega
    clear eq1 ebb e1 hbr hgb d0 hq2
    go_wp2_with fail
    go_ret
    exact ⟨q2, rfl, hlt2, (HC1.out.below HBR.out).set_ (k := 1) (u := .int .i64 ((i + 1 : Nat) : Int)) hBr ⟨i + 1, a2, by omega, rfl⟩, grown_set (p := ⟨g, 1, none⟩) (HGR.out _ HBR.out) rfl _⟩
  · have hi1 : ¬ (i : Int) < (n : Int) := by omega
    go_wp2_with fail
    go_ret
    exact ⟨q1, rfl, hlt1, HC1.out.below HBP.out, HGR.out _ HBP.out⟩
set_option maxHeartbeats 800000 in
theorem l1Below_s (A : Option Addr) (n c g k : Nat) (bs : List UInt8) (w : World) (hc : Cur w g A n c bs) (hn : n ≤ 1048576) (hk1 : 1 ≤ k) (hk : k ≤ 256) :
    Calls Tryz.prog 87 #[.pointer (some ⟨g, 0, none⟩), .int .i64 (k : Int)] w (RetDraw w g A n c bs k) := by
  have h0 : ¬ (k : Int) ≤ 0 := by omega
  have h2 : (k : Int) ≤ 256 := by omega
  have HC := Lib.hid hc
  clear hc
  go_enter Tryz.func87, Tryz.ntmps87
  go_wp2_with fail
  refine (l1Byte_s A n c g bs w HC.out hn).mono ?_
  rintro e w1 ⟨q, rfl, hq, hc1, hg1⟩
  have HC1 := Lib.hid hc1
  have HG1 := Lib.hid hg1
  obtain ⟨r, hr⟩ : ∃ r, q % k = r := ⟨_, rfl⟩
  have hrl : r < k := by rw [← hr]; exact Nat.mod_lt _ (by omega)
  have hrm : (q : Int) % (k : Int) = (r : Int) := by rw [← hr]; simp
  have hrm2 : (q : Int).tmod (k : Int) = (r : Int) := by rw [← hr]; simp [Int.tmod]
  have hkz : ((k : Int) == 0) = false := by simp; omega
  have er : IntKind.i64.wrap (r : Int) = (r : Int) := Go.IntWalk.i64_in _ (by omega)
  clear hc1 hg1 hr
  go_wp2_with fail
  go_ret
  exact ⟨r, rfl, hrl, HC1.out, HG1.out⟩
end Go.Proofs.YtkcgdnnipohehaaGreatDoor

/- A region that draws its order: operations that read and quiet calls, and a chain of operations that make or write memory. The quiet ones may be taken first. -/
namespace Go.Proofs.YtkcgdnnipohehaaGreatDoor
open Go.RowKit
/-- w' is w with more memory. -/
abbrev Ext (w w' : World) : Prop := Below w.heap.size w w'
section
variable {P : Program} {ops : Array Oper} {md : Region.Mode} {C : World → Prop} {Q : Exit → Act → World → Prop}
/-- In every world of the class o yields v and leaves that world, with more memory at most. -/
def Qt (P : Program) (ops : Array Oper) (C : World → Prop) (o : Oper) (v : Value) (a : Act) : Prop :=
  (Region.wanted o (yielded ops a.tmps) = true ∧ ∀ w, C w → o.quietAt P a (Ext w) w v) ∨ (Region.wanted o (yielded ops a.tmps) = false ∧ v = undef)
theorem Qt.same {o : Oper} {v : Value} {a a' : Act} (hy : Qt P ops C o v a) (he : execOp a'.eval o = execOp a.eval o)
    (hw : Region.wanted o (yielded ops a'.tmps) = Region.wanted o (yielded ops a.tmps)) : Qt P ops C o v a' := by
  unfold Qt Oper.quietAt at *
  rw [he, hw]
  exact hy
theorem Qt.wpOp {i : Nat} {o : Oper} {v : Value} {a : Act} {w : World} (hi : ops[i]? = some o) (hC : C w) (hy : Qt P ops C o v a) {K : Act → World → Prop} (h : ∀ w', Ext w w' → K (a.put o.dst v) w') : wpOp P ops Q i K a w := by
  unfold Go.wpOp
  simp only [hi]
  rcases hy with ⟨hw, hv⟩ | ⟨hw, rfl⟩
  · rw [if_pos hw]
    refine .inl ?_
    have h3 := hv w hC
    unfold Oper.quietAt at h3
    unfold Oper.wp
    generalize (execOp a.eval o).run P w = r at *
    cases r with
    | ok n w' =>
      cases n <;> simp only [Oper.quietUpon] at h3 <;> simp only [Oper.upon]
      case value u => rw [h3.1, h3.2]; exact h _ (Below.refl _ _)
      case skip => rw [h3.1, ← h3.2]; exact h _ (Below.refl _ _)
      case enter f args =>
        rw [h3.1]
        exact h3.2.mono fun e w'' he => by obtain ⟨he, hw''⟩ := he; subst he; exact h _ hw''
    | halt x w' => simp only [Oper.quietUpon] at h3
  · rw [if_neg (by rw [hw]; simp)]
    exact h _ (Below.refl _ _)
theorem wpOp_putQt {j : Nat} {oi oj : Oper} {v : Value} (hj : ops[j]? = some oj) (hap : oi.apart ops oj = true)
    (hsi : ∀ cs b, oi.op ≠ .select cs b) (hsj : ∀ cs b, oj.op ≠ .select cs b) (hQ : ∀ c a w, Q (.panic c) (a.put oi.dst v) w → Q (.panic c) a w) {K : Act → World → Prop} {a : Act} {w : World}
    (hy : Qt P ops C oi v a) (h : wpOp P ops Q j K (a.put oi.dst v) w) : wpOp P ops Q j (fun a' w' => Qt P ops C oi v a' ∧ K (a'.put oi.dst v) w') a w := by
  obtain ⟨h1, h2, h3⟩ := Oper.apart_spec hap
  have keep : ∀ (b : Act), Qt P ops C oi v b → ∀ u, Qt P ops C oi v (b.put oj.dst u) := fun b hb u => hb.same (execOp_put oi hsi b oj.dst u h3) (wanted_put oi b oj.dst u h3)
  have swap : ∀ (b : Act) u, Qt P ops C oi v b → K ((b.put oi.dst v).put oj.dst u) = K ((b.put oj.dst u).put oi.dst v) := fun b u _ => by rw [Act.put_comm b v u h2]
  unfold wpOp at *
  simp only [hj] at *
  rw [wanted_put oj a oi.dst v h1] at h
  by_cases hw : Region.wanted oj (yielded ops a.tmps) = true
  · rw [if_pos hw] at h ⊢
    rcases h with h | ⟨hasks, hlets⟩
    · refine .inl ?_
      unfold Oper.wp at *
      rw [execOp_put oj hsj a oi.dst v h1] at h
      generalize (execOp a.eval oj).run P w = r at *
      cases r with
      | ok n w' =>
        cases n <;> simp only [Oper.upon] at h ⊢
        case value u => exact ⟨keep a hy u, by rw [← swap a u hy]; exact h⟩
        case skip => exact ⟨keep a hy _, by rw [← swap a _ hy]; exact h⟩
        case defer d =>
          have hyd : Qt P ops C oi v { a with defers := d :: a.defers } := hy.same rfl rfl
          refine ⟨keep _ hyd _, ?_⟩
          rw [← swap _ _ hyd, ← Act.put_defers]
          exact h
        case enter f args =>
          refine Calls.mono h fun e w'' he => ?_
          cases e with
          | returned u => exact ⟨keep a hy u, by rw [← swap a u hy]; exact he⟩
          | panicked c => exact hQ _ _ _ he
          | outgrown => exact he
        case row row args => exact Rows.mono h fun u w'' he => ⟨keep a hy u, by rw [← swap a u hy]; exact he⟩
      | halt x w' =>
        cases x <;> simp only [Oper.upon] at h ⊢
        case panic u => exact hQ _ _ _ h
    · exact .inr ⟨by unfold Oper.asks at *; rw [execOp_put oj hsj a oi.dst v h1] at hasks; exact hasks, hlets⟩
  · rw [if_neg hw] at h ⊢
    exact ⟨keep a hy _, by rw [← swap a _ hy]; exact h⟩

/-- Whatever order is picked; more memory may come at any time; the class holds throughout. -/
def wpRg (P : Program) (md : Region.Mode) (ops : Array Oper) (C : World → Prop) (Q : Exit → Act → World → Prop) (f : Nat) (listed : Array Bool) (a : Act) (w : World) : Prop :=
  match f with
  | 0 => Region.ready md ops listed = [] ∧ ∀ w', C w' → Ext w w' → Q .normal a w'
  | f + 1 => (Region.ready md ops listed = [] → ∀ w', C w' → Ext w w' → Q .normal a w') ∧
    ∀ i ∈ Region.ready md ops listed, ∀ w', C w' → Ext w w' → wpOp P ops Q i (fun a' w'' => C w'' ∧ wpRg P md ops C Q f (listed.setIfInBounds i true) a' w'') a w'
theorem wpRg_ext {f : Nat} {listed : Array Bool} {a : Act} {w w1 : World} (h : wpRg P md ops C Q f listed a w) (he : Ext w w1) : wpRg P md ops C Q f listed a w1 := by
  cases f with
  | zero => exact ⟨h.1, fun w' hc h1 => h.2 w' hc (bel_trans he h1)⟩
  | succ f => exact ⟨fun hr w' hc h1 => h.1 hr w' hc (bel_trans he h1), fun i hi w' hc h1 => h.2 i hi w' hc (bel_trans he h1)⟩
theorem wpAny_of_wpRg (f : Nat) : ∀ (listed : Array Bool) (a : Act) (w : World), C w → wpRg P md ops C Q f listed a w → wpAny P md ops Q f listed a w := by
  induction f with
  | zero => intro listed a w hc h; exact ⟨h.1, h.2 w hc (Below.refl _ _)⟩
  | succ f ih =>
    intro listed a w hc h
    exact ⟨fun hr => h.1 hr w hc (Below.refl _ _), fun i hi => wpOp_mono (fun a' w' h' => ih _ a' w' h'.1 h'.2) (h.2 i hi w hc (Below.refl _ _))⟩
theorem wpRg_first {i : Nat} {oi : Oper} {v : Value} (hCE : ∀ w w', C w → Ext w w' → C w') (hi : ops[i]? = some oi) (hsel : ∀ (j : Nat) (o : Oper) cs b, ops[j]? = some o → o.op ≠ .select cs b)
    (hQ : ∀ c a w, Q (.panic c) (a.put oi.dst v) w → Q (.panic c) a w) (f : Nat) :
    ∀ (listed : Array Bool) (a : Act) (w : World),
      (∀ j oj, ops[j]? = some oj → j ≠ i → listed.getD j true = false → (∀ e ∈ oj.after, Region.binds md e = true → e.on ≠ i) → oi.apart ops oj = true) →
      i ∈ Region.ready md ops listed → Qt P ops C oi v a →
      wpRg P md ops C Q f (listed.setIfInBounds i true) (a.put oi.dst v) w → wpRg P md ops C Q (f + 1) listed a w := by
  induction f with
  | zero =>
    intro listed a w _ hr hy H
    refine ⟨fun e => absurd e (List.ne_nil_of_mem hr), fun j hj w' hc he => ?_⟩
    rcases Decidable.em (j = i) with e | e
    · subst e
      exact hy.wpOp hi hc fun w'' h2 => ⟨hCE _ _ hc h2, wpRg_ext H (bel_trans he h2)⟩
    · have := ready_mono hj e
      rw [H.1] at this
      cases this
  | succ f ih =>
    intro listed a w hfree hr hy H
    refine ⟨fun e => absurd e (List.ne_nil_of_mem hr), fun j hj w' hc he => ?_⟩
    rcases Decidable.em (j = i) with e | e
    · subst e
      exact hy.wpOp hi hc fun w'' h2 => ⟨hCE _ _ hc h2, wpRg_ext H (bel_trans he h2)⟩
    · obtain ⟨hjun, oj, hoj, hall⟩ := mem_ready.1 hj
      have hnot : ∀ e ∈ oj.after, Region.binds md e = true → e.on ≠ i := by
        intro e he hb heq
        have h1 := hall e he hb
        rw [heq, getD_both (mem_ready.1 hr).1] at h1
        cases h1
      have h2 := wpOp_putQt hoj (hfree j oj hoj e hjun hnot) (fun cs b => hsel i oi cs b hi) (fun cs b => hsel j oj cs b hoj) hQ hy (H.2 j (ready_mono hj e) w' hc he)
      refine wpOp_mono (fun a' w'' h3 => ⟨h3.2.1, ?_⟩) h2
      refine ih (listed.setIfInBounds j true) a' w'' (fun k ok hk hki hun' hno => ?_) (ready_mono hr (Ne.symm e)) h3.1 ?_
      · refine hfree k ok hk hki ?_ hno
        rcases Decidable.em (j = k) with ejk | ejk
        · rw [← ejk]; exact hjun
        · rwa [getD_set_ne true ejk] at hun'
      · rw [Array.setIfInBounds_comm _ _ e]
        exact h3.2.2

/-- The walk: quiet operations. -/
def wpHead (P : Program) (ops : Array Oper) (C : World → Prop) (L : Act → Prop) : List Oper → Act → Prop
  | [], a => L a
  | o :: rest, a => ∃ v, Qt P ops C o v a ∧ wpHead P ops C L rest (a.put o.dst v)
/-- The walk: the others, one behind the other; more memory may come before each. -/
def wpTail (P : Program) (ops : Array Oper) (C : World → Prop) (Q : Exit → Act → World → Prop) : List Oper → Act → World → Prop
  | [], a, w => ∀ w', C w' → Ext w w' → Q .normal a w'
  | o :: rest, a, w => ∀ w', C w' → Ext w w' → Region.wanted o (yielded ops a.tmps) = true ∧ o.wp P a w' (fun a' w'' => C w'' ∧ wpTail P ops C Q rest a' w'') Q
theorem wpTail_drawn {l : List Oper} {a : Act} {w : World} (h : wpTail P ops C Q l a w) : wpTail P ops C Q l a { w with drawn := w.drawn + 1 } := by
  cases l with
  | nil => exact fun w' hc he => h w' hc ⟨he.os, he.tape, he.output, he.size, he.block⟩
  | cons o r => exact fun w' hc he => h w' hc ⟨he.os, he.tape, he.output, he.size, he.block⟩
theorem wpRg_of_tail (l : List Oper) : ∀ (k : Nat) (listed : Array Bool) (a : Act) (w : World), (∀ j, l[j]? = ops[k + j]?) → Region.seqB md ops l.length k listed = true → wpTail P ops C Q l a w → wpRg P md ops C Q l.length listed a w := by
  induction l with
  | nil => intro k listed a w _ hB h; exact ⟨by simpa [Region.seqB] using hB, h⟩
  | cons o l ih =>
    intro k listed a w hl hB h
    have h0 : ops[k]? = some o := by simpa using (hl 0).symm
    simp only [List.length_cons, Region.seqB, Bool.and_eq_true, decide_eq_true_eq] at hB
    refine ⟨fun e => (by rw [hB.1] at e; cases e), fun i hi w' hc he => ?_⟩
    obtain rfl : i = k := by rw [hB.1] at hi; simpa using hi
    obtain ⟨hw, h1⟩ := h w' hc he
    unfold wpOp
    simp only [h0]
    rw [if_pos hw]
    exact .inl (Oper.wp_mono (fun a' w'' h2 => ⟨h2.1, ih (i + 1) _ a' w'' (fun j => by have := hl (j + 1); simpa [Nat.add_assoc, Nat.add_comm 1 j] using this) hB.2 h2.2⟩) h1)
theorem wpRg_of_head {g n : Nat} {L : Act → Prop} {w : World} (hCE : ∀ w w', C w → Ext w w' → C w') (hsel : Region.noSelect ops = true) (hQ : ∀ (d : Option Tmp) v c a w, Q (.panic c) (a.put d v) w → Q (.panic c) a w)
    (hL : ∀ listed a, Region.seqB md ops g n listed = true → L a → wpRg P md ops C Q g listed a w) (l : List Oper) :
    ∀ (k : Nat) (listed : Array Bool) (a : Act), (∀ j, j < l.length → l[j]? = ops[k + j]?) → k + l.length = n → Region.lexHead md ops g l.length k listed = true → wpHead P ops C L l a → wpRg P md ops C Q (l.length + g) listed a w := by
  induction l with
  | nil =>
    intro k listed a _ hk hB h
    have e : k = n := by simpa using hk
    rw [e] at hB
    rw [List.length_nil, Nat.zero_add]
    exact hL _ _ (by simpa [Region.lexHead] using hB) h
  | cons o l ih =>
    intro k listed a hl hk hB h
    have h0 : ops[k]? = some o := by simpa using (hl 0 (by simp)).symm
    simp only [List.length_cons, Region.lexHead, Bool.and_eq_true] at hB hk
    have hr : k ∈ Region.ready md ops listed := by simpa using hB.1.1
    obtain ⟨v, hy, hK⟩ := h
    rw [List.length_cons, Nat.add_right_comm]
    refine wpRg_first hCE h0 (Region.noSelect_spec hsel) (hQ _ _) _ listed a w (Region.free_spec h0 hB.1.2) hr hy ?_
    refine ih (k + 1) _ _ (fun j hj => ?_) (by omega) hB.2 hK
    have := hl (j + 1) (by simp; omega)
    simpa [Nat.add_assoc, Nat.add_comm 1 j] using this
end
section
variable {P : Program} {C : World → Prop} {ops : Array Oper}
theorem wp_region_tail {id : Nat} {Q : Exit → Act → World → Prop} {a : Act} {w : World} {l : List Oper} (n : Nat) (hm : P.follows .mixedOrders = true) (hB : (Region.noSelect l.toArray && decide (n < l.length) && Region.lexHead .any l.toArray (l.length - n) n 0 (Array.replicate l.length false)) = true)
    (hQ : ∀ (d : Option Tmp) v c a w, Q (.panic c) (a.put d v) w → Q (.panic c) a w) (hC : C { w with drawn := w.drawn + 1 }) (hCE : ∀ w w', C w → Ext w w' → C w')
    (h : wpHead P l.toArray C (fun a' => wpTail P l.toArray C Q (l.drop n) a' w) (l.take n) a) : (Code.region id l.toArray true).wp P Q a w := by
  simp only [Bool.and_eq_true, decide_eq_true_eq] at hB
  obtain ⟨⟨hsel, hn⟩, hlex⟩ := hB
  have htl : (l.take n).length = n := by simp; omega
  have hdl : (l.drop n).length = l.length - n := by simp
  refine wp_region_any hm (wpAny_of_wpRg _ _ _ _ hC ?_)
  have H := wpRg_of_head (md := .any) (g := l.length - n) (n := n) (w := { w with drawn := w.drawn + 1 }) hCE hsel hQ (fun listed a' hs hL => by
    have h4 : wpTail P l.toArray C Q (l.drop n) a' { w with drawn := w.drawn + 1 } := wpTail_drawn hL
    have h3 := wpRg_of_tail (ops := l.toArray) (md := .any) (l.drop n) n listed a' { w with drawn := w.drawn + 1 } (fun j => by simp [List.getElem?_drop]) (by rw [hdl]; exact hs) h4
    rwa [hdl] at h3) (l.take n) 0 (Array.replicate l.length false) a (fun j hj => by rw [htl] at hj; simp [hj]) (by simpa using htl) (by rw [htl]; exact hlex) h
  rw [htl, show n + (l.length - n) = l.length by omega] at H
  simpa using H
theorem headV {L : Act → Prop} {o : Oper} {rest : List Oper} {ts : Array Value} {ds : List Deferred} {v : Value} {d : Nat} (hw : Region.wanted o (yielded ops ts) = true) (hd : o.dst = some d) (h1 : ∀ w', C w' → o.quietAt P { tmps := ts, defers := ds } (Ext w') w' v)
    (h2 : wpHead P ops C L rest { tmps := ts.setIfInBounds d v, defers := ds }) : wpHead P ops C L (o :: rest) { tmps := ts, defers := ds } :=
  ⟨v, .inl ⟨hw, h1⟩, by rw [hd]; exact h2⟩
theorem headSkip {L : Act → Prop} {o : Oper} {rest : List Oper} {ts : Array Value} {ds : List Deferred} {d : Nat} (hw : Region.wanted o (yielded ops ts) = false) (hd : o.dst = some d)
    (h2 : wpHead P ops C L rest { tmps := ts.setIfInBounds d undef, defers := ds }) : wpHead P ops C L (o :: rest) { tmps := ts, defers := ds } :=
  ⟨undef, .inr ⟨hw, rfl⟩, by rw [hd]; exact h2⟩
theorem tailK {Q : Exit → Act → World → Prop} {o : Oper} {rest : List Oper} {a : Act} {w : World} (hw : Region.wanted o (yielded ops a.tmps) = true)
    (h : ∀ w', C w' → Ext w w' → ∀ K : Act → World → Prop, (∀ a' w'', C w'' → wpTail P ops C Q rest a' w'' → K a' w'') → o.wp P a w' K Q) : wpTail P ops C Q (o :: rest) a w :=
  fun w' hc he => ⟨hw, h w' hc he _ fun _ _ h1 h2 => ⟨h1, h2⟩⟩
theorem wp_region_tailN {id : Nat} {Q : Exit → Act → World → Prop} {a : Act} {w : World} {l : List Oper} (n : Nat) (hm : P.follows .mixedOrders = true) (hB : (Region.noSelect l.toArray && decide (n < l.length) && Region.lexHead .any l.toArray (l.length - n) n 0 (Array.replicate l.length false)) = true)
    (hC : C { w with drawn := w.drawn + 1 }) (hCE : ∀ w w', C w → Ext w w' → C w')
    (h : wpHead P l.toArray C (fun a' => wpTail P l.toArray C (NoPanic Q) (l.drop n) a' w) (l.take n) a) : (Code.region id l.toArray true).wp P Q a w :=
  wp_region_noPanic (wp_region_tail n hm hB (fun _ _ _ _ _ h => h) hC hCE h)
/-- The class for an append onto a row of the call's own: all else is as it was. -/
def Gr (w : World) (A : Option Addr) (w' : World) : Prop := w.grownBy w' (ob A)
theorem Gr.drawn (w : World) (A : Option Addr) : Gr w A { w with drawn := w.drawn + 1 } := ⟨rfl, rfl, rfl, Nat.le_refl _, fun _ _ _ => rfl⟩
theorem Gr.ext {w : World} {A : Option Addr} {w1 w2 : World} (h : Gr w A w1) (he : Ext w1 w2) : Gr w A w2 :=
  ⟨he.os.trans h.os, he.tape.trans h.tape, he.output.trans h.output, Nat.le_trans h.size he.size, fun k hk hne => (he.block k (Nat.lt_of_lt_of_le hk h.size)).trans (h.block k hk hne)⟩
theorem Gr.trans {w : World} {A : Option Addr} {w1 w2 : World} (h : Gr w A w1) (k : w1.grownBy w2 (ob A)) : Gr w A w2 :=
  ⟨k.os.trans h.os, k.tape.trans h.tape, k.output.trans h.output, Nat.le_trans h.size k.size, fun b hb hne => (k.block b (Nat.lt_of_lt_of_le hb h.size) hne).trans (h.block b hb hne)⟩
theorem Gr.cells {w w' : World} {A : Option Addr} (h : Gr w A w') : ∀ b o, b < w.heap.size → some b ≠ ob A → w'.cell? ⟨b, o, none⟩ = w.cell? ⟨b, o, none⟩ := fun b _ hb hne => World.cell?_of_block (h.block b hb hne)
/-- The class where nothing that was there is written. -/
def ExC (w w' : World) : Prop := Below w.heap.size w w'
theorem ExC.drawn (w : World) : ExC w { w with drawn := w.drawn + 1 } := ⟨rfl, rfl, rfl, Nat.le_refl _, fun _ _ => rfl⟩
theorem ExC.ext {w w1 w2 : World} (h : ExC w w1) (he : Ext w1 w2) : ExC w w2 := bel_trans h he
theorem ExC.cells {w w' : World} (h : ExC w w') : ∀ b o, b < w.heap.size → w'.cell? ⟨b, o, none⟩ = w.cell? ⟨b, o, none⟩ := (bcell h).1
theorem Gr.cell {w w' : World} {A : Option Addr} {b : Nat} (h : Gr w A w') (hb : b < w.heap.size) (hne : some b ≠ ob A) (o : Nat) : w'.cell? ⟨b, o, none⟩ = w.cell? ⟨b, o, none⟩ :=
  World.cell?_of_block (h.block b hb hne)
end
end Go.Proofs.YtkcgdnnipohehaaGreatDoor

/- 'append(append(append([]T{}, a...), x), b...)' in a region that draws its order: the two literals may be made in either order. -/
namespace Go.Proofs.YtkcgdnnipohehaaGreatDoor
open Go.RowKit
set_option linter.unusedVariables false
section
variable {P : Program} {ops : Array Oper} {md : Region.Mode} {C : World → Prop} {Q : Exit → Act → World → Prop}
theorem rg_one {f i : Nat} {o : Oper} {listed : Array Bool} {a : Act} {w : World} (hr : Region.ready md ops listed = [i]) (hi : ops[i]? = some o) (hg : o.guard = none)
    (h : ∀ w', C w' → Ext w w' → o.wp P a w' (fun a' w'' => C w'' ∧ wpRg P md ops C Q f (listed.setIfInBounds i true) a' w'') Q) : wpRg P md ops C Q (f + 1) listed a w := by
  refine ⟨fun e => by rw [hr] at e; simp at e, fun j hj w' hc he => ?_⟩
  rw [hr] at hj
  obtain rfl : j = i := by simpa using hj
  unfold wpOp
  simp only [hi]
  rw [if_pos (by simp [Region.wanted, hg])]
  exact .inl (h w' hc he)
theorem rg_two {f i k : Nat} {o o2 : Oper} {listed : Array Bool} {a : Act} {w : World} (hr : Region.ready md ops listed = [i, k]) (hi : ops[i]? = some o) (hg : o.guard = none) (hk : ops[k]? = some o2) (hg2 : o2.guard = none)
    (h : ∀ w', C w' → Ext w w' → o.wp P a w' (fun a' w'' => C w'' ∧ wpRg P md ops C Q f (listed.setIfInBounds i true) a' w'') Q)
    (h2 : ∀ w', C w' → Ext w w' → o2.wp P a w' (fun a' w'' => C w'' ∧ wpRg P md ops C Q f (listed.setIfInBounds k true) a' w'') Q) : wpRg P md ops C Q (f + 1) listed a w := by
  refine ⟨fun e => by rw [hr] at e; simp at e, fun j hj w' hc he => ?_⟩
  rw [hr] at hj
  unfold wpOp
  rcases (by simpa using hj : j = i ∨ j = k) with rfl | rfl
  · simp only [hi]
    rw [if_pos (by simp [Region.wanted, hg])]
    exact .inl (h w' hc he)
  · simp only [hk]
    rw [if_pos (by simp [Region.wanted, hg2])]
    exact .inl (h2 w' hc he)
end
section
variable {P : Program} {ops : Array Oper} {C : World → Prop} {Q : Exit → Act → World → Prop} {w0 : World}
theorem wp_region_rg {id : Nat} {a : Act} {w : World} {l : List Oper} (n : Nat) (hl : l.length = n) (hm : P.follows .mixedOrders = true) (h : wpRg P .any l.toArray (ExC w) (NoPanic Q) n (Array.replicate n false) a w) : (Code.region id l.toArray true).wp P Q a w := by
  subst hl
  exact wp_region_noPanic (wp_region_any hm (wpAny_of_wpRg _ _ _ _ (ExC.drawn w) (wpRg_ext h (ExC.drawn w))))
/-- An operation that only reads is taken first. -/
theorem rgT {i d : Nat} {oi : Oper} {v : Value} {f : Nat} {listed : Array Bool} {ts : Array Value} {ds : List Deferred} {w : World} (hi : ops[i]? = some oi) (hd : oi.dst = some d)
    (hs : Region.noSelect ops = true) (hf : Region.free .any ops listed i = true) (hr : (Region.ready .any ops listed).contains i = true) (hw : Region.wanted oi (yielded ops ts) = true)
    (hy : ∀ w', ExC w0 w' → oi.quietAt P { tmps := ts, defers := ds } (Ext w') w' v)
    (h : wpRg P .any ops (ExC w0) (NoPanic Q) f (listed.setIfInBounds i true) { tmps := ts.setIfInBounds d v, defers := ds } w) : wpRg P .any ops (ExC w0) (NoPanic Q) (f + 1) listed { tmps := ts, defers := ds } w :=
  wpRg_first (fun _ _ h k => h.ext k) hi (Region.noSelect_spec hs) (fun _ _ _ h => h) f listed _ w (Region.free_spec hi hf) (by simpa using hr) (.inl ⟨hw, hy⟩) (by rw [hd]; exact h)
end
/-- a is a0 but for some slots. -/
structure Fr (S : List Nat) (a0 a : Act) : Prop where
  size : a.tmps.size = a0.tmps.size
  defers : a.defers = a0.defers
  same : ∀ t, t ∉ S → a.tmps[t]? = a0.tmps[t]?
theorem Fr.refl (S : List Nat) (a : Act) : Fr S a a := ⟨rfl, rfl, fun _ _ => rfl⟩
theorem Fr.put {S : List Nat} {a0 a : Act} (h : Fr S a0 a) {d : Nat} (hd : d ∈ S) (v : Value) : Fr S a0 (a.put (some d) v) := by
  refine ⟨by simp [Act.put, h.size], h.defers, fun t ht => ?_⟩
  have hne : d ≠ t := by rintro rfl; exact ht hd
  simp only [Act.put, Array.getElem?_setIfInBounds_ne hne]
  exact h.same t ht
theorem Fr.eval {S : List Nat} {a0 a : Act} (h : Fr S a0 a) {t : Nat} (ht : t ∉ S) : a.eval (.tmp t) = a0.eval (.tmp t) := by
  simp only [Act.eval, Array.getD_eq_getD_getElem?, h.same t ht]
theorem put_eval {a : Act} {d : Nat} (v : Value) (hd : d < a.tmps.size) : (a.put (some d) v).eval (.tmp d) = v := by simp [Act.eval, Act.put, hd]
theorem put_eval_ne {a : Act} {d t : Nat} (v : Value) (hne : d ≠ t) : (a.put (some d) v).eval (.tmp t) = a.eval (.tmp t) := by
  simp [Act.eval, Act.put, Array.getElem?_setIfInBounds_ne hne]
section
variable {P : Program} {o : Oper} {a : Act} {w : World} {K : Act → World → Prop} {Q : Exit → Act → World → Prop}
theorem wp_val {v : Value} {w' : World} (h : (execOp a.eval o).run P w = .ok (.value v) w') (hk : K (a.put o.dst v) w') : o.wp P a w K Q := by
  unfold Oper.wp
  rw [h]
  exact hk
end
theorem agree_set {S : List Nat} {s : Nat} {ts X : Array Value} (hz : ts.size = X.size) (h : ∀ t, t ∉ s :: S → ts[t]? = X[t]?) : ∀ t, t ∉ S → ts[t]? = (X.setIfInBounds s (ts.getD s undef))[t]? := by
  intro t ht
  by_cases e : s = t
  · subst e
    rcases Nat.lt_or_ge s ts.size with hl | hl
    · rw [Array.getElem?_setIfInBounds_self_of_lt (by omega), Array.getD_eq_getD_getElem?, Array.getElem?_eq_getElem hl]; rfl
    · rw [Array.getElem?_eq_none hl, Array.getElem?_eq_none (by simp; omega)]
  · rw [Array.getElem?_setIfInBounds_ne e]
    exact h t (by simp [Ne.symm e, ht])
theorem Fr.form {s0 sA sN sB sD dE : Nat} {a0 a : Act} (h : Fr [s0, sA, sN, sB, sD, dE] a0 a) {v : Value} (hv : a.eval (.tmp dE) = v) :
    ∃ v0 vA vN vB vD, a = { tmps := (((((a0.tmps.setIfInBounds s0 v0).setIfInBounds sA vA).setIfInBounds sN vN).setIfInBounds sB vB).setIfInBounds sD vD).setIfInBounds dE v, defers := a0.defers } := by
  refine ⟨a.tmps.getD s0 undef, a.tmps.getD sA undef, a.tmps.getD sN undef, a.tmps.getD sB undef, a.tmps.getD sD undef, ?_⟩
  have h1 := agree_set h.size h.same
  have h2 := agree_set (by simp [h.size]) h1
  have h3 := agree_set (by simp [h.size]) h2
  have h4 := agree_set (by simp [h.size]) h3
  have h5 := agree_set (by simp [h.size]) h4
  have h6 := agree_set (by simp [h.size]) h5
  have e : a.tmps = _ := Array.ext_getElem? fun t => h6 t (by simp)
  have hv' : a.tmps.getD dE undef = v := hv
  rw [hv'] at e
  obtain ⟨ts, ds⟩ := a
  have hd := h.defers
  simp only at hd e
  subst hd
  rw [← e]
/-- What is known of the region's six operations. -/
structure InsOps (P : Program) (ops : Array Oper) (T e : TypeId) (i0 iA iN iB iD iE s0 sA sN sB sD dE t1 t2 : Nat) (vn : Value) (news : List Value) (xn : Operand) : Prop where
  p0 : ∃ o : Oper, ops[i0]? = some o ∧ o.guard = none ∧ o.dst = some s0 ∧ ∀ a w, (execOp (Act.eval a) o).run P w = .ok (.value (.slice (some ⟨w.heap.size, 0, none⟩) 0 0)) (w.alloc (.cells #[] e))
  pA : ∃ o : Oper, ops[iA]? = some o ∧ o.guard = none ∧ o.dst = some sA ∧ o.op = .call { callee := .builtin .append, args := #[.tmp s0, .tmp t1], argTypes := #[T, T] }
  pN : ∃ o : Oper, ops[iN]? = some o ∧ o.guard = none ∧ o.dst = some sN ∧ ∀ a w, a.eval xn = vn → (execOp (Act.eval a) o).run P w = .ok (.value (.slice (some ⟨w.heap.size, 0, none⟩) 1 1)) (w.alloc (.cells news.toArray e))
  pB : ∃ o : Oper, ops[iB]? = some o ∧ o.guard = none ∧ o.dst = some sB ∧ o.op = .call { callee := .builtin .append, args := #[.tmp sA, .tmp sN], argTypes := #[T, T] }
  pD : ∃ o : Oper, ops[iD]? = some o ∧ o.guard = none ∧ o.dst = some sD ∧ o.op = .call { callee := .builtin .append, args := #[.tmp sB, .tmp t2], argTypes := #[T, T] }
  pE : ∃ o : Oper, ops[iE]? = some o ∧ o.guard = none ∧ o.dst = some dE ∧ o.op = .assign (.tmp sD)
/-- The slots differ. -/
structure InsSlots (s0 sA sN sB sD dE t1 t2 : Nat) (a0 : Act) : Prop where
  lt : s0 < a0.tmps.size ∧ sA < a0.tmps.size ∧ sN < a0.tmps.size ∧ sB < a0.tmps.size ∧ sD < a0.tmps.size ∧ dE < a0.tmps.size
  ne : s0 ≠ sN ∧ sA ≠ sN
  t1n : t1 ∉ [s0, sA, sN, sB, sD, dE]
  t2n : t2 ∉ [s0, sA, sN, sB, sD, dE]
section
variable {P : Program} {ops : Array Oper} {md : Region.Mode} {Q : Exit → Act → World → Prop}
variable {T e : TypeId} {i : TypeInfo} {z : Value} {size bytes : Nat} {i0 iA iN iB iD iE s0 sA sN sB sD dE t1 t2 : Nat} {vn : Value} {vs1 news vs2 : List Value} {xn : Operand} {A1 A2 : Option Addr} {m1 c1 m2 c2 : Nat} {a0 : Act} {w0 : World}
/-- The last two: the second append, the assignment. -/
theorem ins_3 (L : Array Bool) (ht : P.underlying T = some (.slice e)) (hi : P.info? e = some i) (hz : i.zero = some z) (hsize : i.size = size) (hby : i.bytes = bytes) (hzs : z.cells.size = size) (hsz : 0 < size)
    (ho : InsOps P ops T e i0 iA iN iB iD iE s0 sA sN sB sD dE t1 t2 vn news xn) (hs : InsSlots s0 sA sN sB sD dE t1 t2 a0)
    (hrD : Region.ready md ops L = [iD]) (hrE : Region.ready md ops (L.setIfInBounds iD true) = [iE]) (hrF : Region.ready md ops ((L.setIfInBounds iD true).setIfInBounds iE true) = [])
    (e2 : a0.eval (.tmp t2) = .slice A2 m2 c2) (r2 : Rd w0 A2 vs2) (l2 : vs2.length = m2 * size) (h2 : ∀ u ∈ vs2, u.oneCell' = true) (hm : m1 + 1 + m2 ≤ 1099511627776) (hbs : bytes ≤ 64)
    (hQ : ∀ a' w' A' c', Fr [s0, sA, sN, sB, sD, dE] a0 a' → a'.eval (.tmp dE) = .slice A' (m1 + 1 + m2) c' → w'.ownsRow w0.heap.size e size (.slice A' (m1 + 1 + m2) c') (m1 + 1 + m2) (vs1 ++ news ++ vs2) → Ext w0 w' → Q .normal a' w')
    (a : Act) (w : World) (hf : Fr [s0, sA, sN, sB, sD, dE] a0 a) (hx : Ext w0 w) {B : Option Addr} {cB : Nat} (eB : a.eval (.tmp sB) = .slice B (m1 + 1) cB) (oB : w.ownsRow w0.heap.size e size (.slice B (m1 + 1) cB) (m1 + 1) (vs1 ++ news)) :
    wpRg P md ops (ExC w0) Q 2 L a w := by
  obtain ⟨oD, d1, d2, d3, d4⟩ := ho.pD
  obtain ⟨oE, f1, f2, f3, f4⟩ := ho.pE
  refine rg_one hrD d1 d2 fun w1 hc1 he1 => ?_
  have hz1 := hc1.size
  refine wp_app w1 _ _ T d4 w0.heap.size e i z size bytes ht hi hz hsize hby hzs hsz B (m1 + 1) cB _ eB (own_keep oB he1) A2 m2 c2 vs2 (by rw [hf.eval hs.t2n]; exact e2) (r2.below hc1) l2 h2 (by unfold maxLen; omega)
    (Nat.le_trans (Nat.mul_le_mul hm hbs) (by omega)) hz1 ?_
  intro A' c' w2 o2 g2 at2
  have hx2 : Ext w0 w2 := bel_app hc1 g2 (fun g h => (own_lt oB g h).1)
  refine ⟨hx2, ?_⟩
  rw [d3]
  refine rg_one hrE f1 f2 fun w3 hc3 he3 => ?_
  have hlt := hs.lt
  have hf2 : Fr [s0, sA, sN, sB, sD, dE] a0 (a.put (some sD) (.slice A' (m1 + 1 + m2) c')) := hf.put (by simp) _
  have eD : (a.put (some sD) (.slice A' (m1 + 1 + m2) c')).eval (.tmp sD) = .slice A' (m1 + 1 + m2) c' := put_eval _ (by rw [hf.size]; exact hlt.2.2.2.2.1)
  refine wp_val (BigFrame.run_assign (.tmp sD) f4 _) ⟨hc3, ?_⟩
  rw [eD, f3]
  refine ⟨hrF, fun w4 hc4 he4 => ?_⟩
  exact hQ _ _ A' c' (hf2.put (by simp) _) (put_eval _ (by rw [hf2.size]; exact hlt.2.2.2.2.2)) (own_keep (own_keep o2 he3) he4) hc4
/-- The first append's slice and the new element are there. -/
theorem ins_2 (L : Array Bool) (ht : P.underlying T = some (.slice e)) (hi : P.info? e = some i) (hz : i.zero = some z) (hsize : i.size = size) (hby : i.bytes = bytes) (hzs : z.cells.size = size) (hsz : 0 < size)
    (ho : InsOps P ops T e i0 iA iN iB iD iE s0 sA sN sB sD dE t1 t2 vn news xn) (hs : InsSlots s0 sA sN sB sD dE t1 t2 a0)
    (hrB : Region.ready md ops L = [iB]) (hm : m1 + 1 + m2 ≤ 1099511627776) (hbs : bytes ≤ 64) (ln : news.length = size) (hn : ∀ u ∈ news, u.oneCell' = true)
    (h3 : ∀ a w B cB, Fr [s0, sA, sN, sB, sD, dE] a0 a → Ext w0 w → a.eval (.tmp sB) = .slice B (m1 + 1) cB → w.ownsRow w0.heap.size e size (.slice B (m1 + 1) cB) (m1 + 1) (vs1 ++ news) → wpRg P md ops (ExC w0) Q 2 (L.setIfInBounds iB true) a w)
    (a : Act) (w : World) (hf : Fr [s0, sA, sN, sB, sD, dE] a0 a) (hx : Ext w0 w) {B : Option Addr} {cB : Nat} (eA : a.eval (.tmp sA) = .slice B m1 cB) (oA : w.ownsRow w0.heap.size e size (.slice B m1 cB) m1 vs1)
    {N : Option Addr} {cN : Nat} (eN : a.eval (.tmp sN) = .slice N 1 cN) (rN : Rd w N news) : wpRg P md ops (ExC w0) Q 3 L a w := by
  obtain ⟨oB, d1, d2, d3, d4⟩ := ho.pB
  refine rg_one hrB d1 d2 fun w1 hc1 he1 => ?_
  have hz1 := hc1.size
  refine wp_app w1 _ _ T d4 w0.heap.size e i z size bytes ht hi hz hsize hby hzs hsz B m1 cB _ eA (own_keep oA he1) N 1 cN news eN (rN.below he1) (by rw [ln]; omega) hn (by unfold maxLen; omega)
    (Nat.le_trans (Nat.mul_le_mul (show m1 + 1 ≤ 1099511627776 by omega) hbs) (by omega)) hz1 ?_
  intro A' c' w2 o2 g2 at2
  have hx2 : Ext w0 w2 := bel_app hc1 g2 (fun g h => (own_lt oA g h).1)
  refine ⟨hx2, ?_⟩
  rw [d3]
  exact h3 _ _ A' c' (hf.put (by simp) _) hx2 (put_eval _ (by rw [hf.size]; exact hs.lt.2.2.2.1)) o2
/-- The whole tail. -/
theorem ins_tail (L : Array Bool) (ht : P.underlying T = some (.slice e)) (hi : P.info? e = some i) (hz : i.zero = some z) (hsize : i.size = size) (hby : i.bytes = bytes) (hzs : z.cells.size = size) (hsz : 0 < size)
    (ho : InsOps P ops T e i0 iA iN iB iD iE s0 sA sN sB sD dE t1 t2 vn news xn) (hs : InsSlots s0 sA sN sB sD dE t1 t2 a0) (hxn : ∀ a, Fr [s0, sA, sN, sB, sD, dE] a0 a → a.eval xn = vn)
    (r_ : Region.ready md ops L = [i0, iN]) (r0 : Region.ready md ops (L.setIfInBounds i0 true) = [iA, iN]) (rN : Region.ready md ops (L.setIfInBounds iN true) = [i0])
    (r0A : Region.ready md ops ((L.setIfInBounds i0 true).setIfInBounds iA true) = [iN]) (r0N : Region.ready md ops ((L.setIfInBounds i0 true).setIfInBounds iN true) = [iA])
    (i0N : i0 ≠ iN) (iAN : iA ≠ iN)
    (rB : Region.ready md ops (((L.setIfInBounds i0 true).setIfInBounds iA true).setIfInBounds iN true) = [iB])
    (rD : Region.ready md ops ((((L.setIfInBounds i0 true).setIfInBounds iA true).setIfInBounds iN true).setIfInBounds iB true) = [iD])
    (rE : Region.ready md ops (((((L.setIfInBounds i0 true).setIfInBounds iA true).setIfInBounds iN true).setIfInBounds iB true).setIfInBounds iD true) = [iE])
    (rF : Region.ready md ops ((((((L.setIfInBounds i0 true).setIfInBounds iA true).setIfInBounds iN true).setIfInBounds iB true).setIfInBounds iD true).setIfInBounds iE true) = [])
    (e1 : a0.eval (.tmp t1) = .slice A1 m1 c1) (q1 : Rd w0 A1 vs1) (l1 : vs1.length = m1 * size) (h1 : ∀ u ∈ vs1, u.oneCell' = true)
    (e2 : a0.eval (.tmp t2) = .slice A2 m2 c2) (q2 : Rd w0 A2 vs2) (l2 : vs2.length = m2 * size) (h2 : ∀ u ∈ vs2, u.oneCell' = true)
    (ln : news.length = size) (hn : ∀ u ∈ news, u.oneCell' = true) (hm : m1 + 1 + m2 ≤ 1099511627776) (hbs : bytes ≤ 64)
    (hQ : ∀ a' w' A' c', Fr [s0, sA, sN, sB, sD, dE] a0 a' → a'.eval (.tmp dE) = .slice A' (m1 + 1 + m2) c' → w'.ownsRow w0.heap.size e size (.slice A' (m1 + 1 + m2) c') (m1 + 1 + m2) (vs1 ++ news ++ vs2) → Ext w0 w' → Q .normal a' w') :
    wpRg P md ops (ExC w0) Q 6 L a0 w0 := by
  obtain ⟨o0, a1, a2, a3, a4⟩ := ho.p0
  obtain ⟨oA, b1, b2, b3, b4⟩ := ho.pA
  obtain ⟨oN, n1, n2, n3, n4⟩ := ho.pN
  have hlt := hs.lt
  have hsz0 : ∀ w : World, (w.alloc (.cells (#[] : Array Value) e)).ownsRow w.heap.size e size (.slice (some ⟨w.heap.size, 0, none⟩) 0 0) 0 [] := fun w => own_new w e size 0 #[] (by simp) (by simp [maxLen]) (Nat.le_refl _)
  -- behind the first append and the element
  have S2 : ∀ (a : Act) (w : World), Fr [s0, sA, sN, sB, sD, dE] a0 a → Ext w0 w → ∀ (B : Option Addr) (cB : Nat), a.eval (.tmp sA) = .slice B m1 cB → w.ownsRow w0.heap.size e size (.slice B m1 cB) m1 vs1 → ∀ (N : Option Addr) (cN : Nat), a.eval (.tmp sN) = .slice N 1 cN → Rd w N news →
      wpRg P md ops (ExC w0) Q 3 (((L.setIfInBounds i0 true).setIfInBounds iA true).setIfInBounds iN true) a w := fun a w hf hx B cB eA oA' N cN eN rN' =>
    ins_2 (m2 := m2) _ ht hi hz hsize hby hzs hsz ho hs rB hm hbs ln hn (fun a w B cB hf hx eB oB' => ins_3 _ ht hi hz hsize hby hzs hsz ho hs rD rE rF e2 q2 l2 h2 hm hbs hQ a w hf hx eB oB') a w hf hx eA oA' eN rN'
  -- the first append
  have SA : ∀ (a : Act) (w : World) (f : Nat) (L' : Array Bool), Fr [s0, sA, sN, sB, sD, dE] a0 a → Ext w0 w → ∀ (B : Option Addr) (cB : Nat), a.eval (.tmp s0) = .slice B 0 cB → w.ownsRow w0.heap.size e size (.slice B 0 cB) 0 [] →
      ∀ K : Act → World → Prop, (∀ A' c' w', Fr [s0, sA, sN, sB, sD, dE] a0 (a.put (some sA) (.slice A' m1 c')) → Ext w0 w' → w'.ownsRow w0.heap.size e size (.slice A' m1 c') m1 vs1 → w.grownBy w' (ob B) → (∀ g, ob B = some g → w0.heap.size ≤ g) → K (a.put (some sA) (.slice A' m1 c')) w') → oA.wp P a w K Q := by
    intro a w f L' hf hx B cB e0 o0' K hK
    refine wp_app w _ _ T b4 w0.heap.size e i z size bytes ht hi hz hsize hby hzs hsz B 0 cB [] e0 o0' A1 m1 c1 vs1 (by rw [hf.eval hs.t1n]; exact e1) (q1.below hx) l1 h1 (by unfold maxLen; omega)
      (by rw [Nat.zero_add]; exact Nat.le_trans (Nat.mul_le_mul (show m1 ≤ 1099511627776 by omega) hbs) (by omega)) hx.size ?_
    intro A' c' w2 o2 g2 at2
    simp only [Nat.zero_add, List.nil_append] at o2 ⊢
    rw [b3]
    exact hK A' c' w2 (hf.put (by simp) _) (bel_app hx g2 (fun g h => (own_lt o0' g h).1)) o2 g2 (fun g h => (own_lt o0' g h).1)
  refine rg_two r_ a1 a2 n1 n2 (fun w1 hc1 he1 => ?_) (fun w1 hc1 he1 => ?_)
  · -- the empty literal first
    refine wp_val (a4 a0 w1) ⟨bel_alloc hc1 _, ?_⟩
    rw [a3]
    have f0 : Fr [s0, sA, sN, sB, sD, dE] a0 (a0.put (some s0) (.slice (some ⟨w1.heap.size, 0, none⟩) 0 0)) := (Fr.refl _ _).put (by simp) _
    have ev0 : (a0.put (some s0) (.slice (some ⟨w1.heap.size, 0, none⟩) 0 0)).eval (.tmp s0) = .slice (some ⟨w1.heap.size, 0, none⟩) 0 0 := put_eval _ hlt.1
    have ow0 := own_base (hsz0 w1) hc1.size
    refine rg_two r0 b1 b2 n1 n2 (fun w2 hc2 he2 => ?_) (fun w2 hc2 he2 => ?_)
    · refine SA _ w2 0 L f0 hc2 _ _ ev0 (own_keep ow0 he2) _ fun A' c' w3 hf3 hx3 o3 _ _ => ⟨hx3, ?_⟩
      refine rg_one r0A n1 n2 fun w4 hc4 he4 => ?_
      refine wp_val (n4 _ w4 (hxn _ hf3)) ⟨bel_alloc hc4 _, ?_⟩
      rw [n3]
      refine S2 _ _ (hf3.put (by simp) _) (bel_alloc hc4 _) A' c' ?_ (own_keep (own_keep o3 he4) (bel_alloc (Below.refl _ _) _)) (some ⟨w4.heap.size, 0, none⟩) 1 (put_eval _ (by rw [hf3.size]; exact hlt.2.2.1)) (by simpa using rd_new w4 e news.toArray)
      rw [put_eval_ne _ hs.ne.2.symm]
      exact put_eval _ (by rw [f0.size]; exact hlt.2.1)
    · refine wp_val (n4 _ w2 (hxn _ f0)) ⟨bel_alloc hc2 _, ?_⟩
      rw [n3]
      refine rg_one r0N b1 b2 fun w3 hc3 he3 => ?_
      have f1 := f0.put (d := sN) (by simp) (.slice (some ⟨w2.heap.size, 0, none⟩) 1 1)
      have ev1 : ((a0.put (some s0) (.slice (some ⟨w1.heap.size, 0, none⟩) 0 0)).put (some sN) (.slice (some ⟨w2.heap.size, 0, none⟩) 1 1)).eval (.tmp s0) = .slice (some ⟨w1.heap.size, 0, none⟩) 0 0 := by
        rw [put_eval_ne _ hs.ne.1.symm]; exact ev0
      have evN : ((a0.put (some s0) (.slice (some ⟨w1.heap.size, 0, none⟩) 0 0)).put (some sN) (.slice (some ⟨w2.heap.size, 0, none⟩) 1 1)).eval (.tmp sN) = .slice (some ⟨w2.heap.size, 0, none⟩) 1 1 := put_eval _ (by rw [f0.size]; exact hlt.2.2.1)
      have rdN : Rd w3 (some ⟨w2.heap.size, 0, none⟩) news := Rd.below (by simpa using rd_new w2 e news.toArray) he3
      refine SA _ w3 0 L f1 hc3 _ _ ev1 (own_keep (own_keep (own_keep ow0 he2) (bel_alloc (Below.refl _ _) _)) he3) _ fun A' c' w4 hf4 hx4 o4 g4 _ => ⟨hx4, ?_⟩
      rw [Array.setIfInBounds_comm _ _ (Ne.symm iAN)]
      have hz := he2.size
      refine S2 _ _ hf4 hx4 A' c' (put_eval _ (by rw [f1.size]; exact hlt.2.1)) o4 (some ⟨w2.heap.size, 0, none⟩) 1 ?_ (rdN.grown g4 (fun g h e => by
        simp only [ob, Option.map_some, Option.some.injEq] at h e
        simp at hz
        omega))
      rw [put_eval_ne _ hs.ne.2]
      exact evN
  · -- the element first
    refine wp_val (n4 a0 w1 (hxn _ (Fr.refl _ _))) ⟨bel_alloc hc1 _, ?_⟩
    rw [n3]
    have f0 : Fr [s0, sA, sN, sB, sD, dE] a0 (a0.put (some sN) (.slice (some ⟨w1.heap.size, 0, none⟩) 1 1)) := (Fr.refl _ _).put (by simp) _
    have evN : (a0.put (some sN) (.slice (some ⟨w1.heap.size, 0, none⟩) 1 1)).eval (.tmp sN) = .slice (some ⟨w1.heap.size, 0, none⟩) 1 1 := put_eval _ hlt.2.2.1
    have rdN0 : Rd (w1.alloc (.cells news.toArray e)) (some ⟨w1.heap.size, 0, none⟩) news := by simpa using rd_new w1 e news.toArray
    refine rg_one rN a1 a2 fun w2 hc2 he2 => ?_
    refine wp_val (a4 _ w2) ⟨bel_alloc hc2 _, ?_⟩
    rw [a3]
    rw [Array.setIfInBounds_comm _ _ (Ne.symm i0N)]
    refine rg_one r0N b1 b2 fun w3 hc3 he3 => ?_
    have f1 := f0.put (d := s0) (by simp) (.slice (some ⟨w2.heap.size, 0, none⟩) 0 0)
    have ev0 : ((a0.put (some sN) (.slice (some ⟨w1.heap.size, 0, none⟩) 1 1)).put (some s0) (.slice (some ⟨w2.heap.size, 0, none⟩) 0 0)).eval (.tmp s0) = .slice (some ⟨w2.heap.size, 0, none⟩) 0 0 := put_eval _ (by rw [f0.size]; exact hlt.1)
    have evN1 : ((a0.put (some sN) (.slice (some ⟨w1.heap.size, 0, none⟩) 1 1)).put (some s0) (.slice (some ⟨w2.heap.size, 0, none⟩) 0 0)).eval (.tmp sN) = .slice (some ⟨w1.heap.size, 0, none⟩) 1 1 := by
      rw [put_eval_ne _ hs.ne.1]; exact evN
    have rdN : Rd w3 (some ⟨w1.heap.size, 0, none⟩) news := ((rdN0.below he2).alloc _).below he3
    have ow0 := own_base (hsz0 w2) hc2.size
    refine SA _ w3 0 L f1 hc3 _ _ ev0 (own_keep ow0 he3) _ fun A' c' w4 hf4 hx4 o4 g4 _ => ⟨hx4, ?_⟩
    rw [Array.setIfInBounds_comm _ _ (Ne.symm iAN)]
    have hz := he2.size
    refine S2 _ _ hf4 hx4 A' c' (put_eval _ (by rw [f1.size]; exact hlt.2.1)) o4 (some ⟨w1.heap.size, 0, none⟩) 1 ?_ (rdN.grown g4 (fun g h e => by
      simp only [ob, Option.map_some, Option.some.injEq] at h e
      simp at hz
      omega))
    rw [put_eval_ne _ hs.ne.2]
    exact evN1
end
end Go.Proofs.YtkcgdnnipohehaaGreatDoor

/- Whether a number lies between two others: the program's and the reference's function. -/
namespace Go.Proofs.YtkcgdnnipohehaaGreatDoor
open Go.RowKit
set_option linter.unusedVariables false
theorem between_t (n lo hi : Int) (w : World) (h1 : lo ≤ n) (h2 : n ≤ hi) : Calls Tryz.prog 90 #[.int .i64 n, .int .i64 lo, .int .i64 hi] w (Ret w (.bool true)) := by
  go_enter Tryz.func90, Tryz.ntmps90
  go_wp2
  go_ret
  exact ⟨rfl, Below.refl _ _⟩
theorem between_f (n lo hi : Int) (w : World) (h : ¬ (lo ≤ n ∧ n ≤ hi)) : Calls Tryz.prog 90 #[.int .i64 n, .int .i64 lo, .int .i64 hi] w (Ret w (.bool false)) := by
  by_cases h1 : lo ≤ n
  · have h2 : hi < n := by omega
    have h3 : decide (n ≤ hi) = false := by simp; omega
    clear h
    go_enter Tryz.func90, Tryz.ntmps90
    go_wp2
    go_ret
    exact ⟨rfl, Below.refl _ _⟩
  · have h2 : n < lo := by omega
    clear h h1
    go_enter Tryz.func90, Tryz.ntmps90
    go_wp2
    go_ret
    exact ⟨rfl, Below.refl _ _⟩
theorem between_b (n lo hi : Int) (b : Bool) (w : World) (h : b = (decide (lo ≤ n) && decide (n ≤ hi))) : Calls Tryz.prog 90 #[.int .i64 n, .int .i64 lo, .int .i64 hi] w (Ret w (.bool b)) := by
  subst h
  by_cases h1 : lo ≤ n ∧ n ≤ hi
  · rw [decide_eq_true h1.1, decide_eq_true h1.2]; exact between_t n lo hi w h1.1 h1.2
  · have e : (decide (lo ≤ n) && decide (n ≤ hi)) = false := by simp; omega
    rw [e]; exact between_f n lo hi w h1
theorem l1In_t (n lo hi : Int) (w : World) (h1 : lo ≤ n) (h2 : n ≤ hi) : Calls Tryz.prog 83 #[.int .i64 n, .int .i64 lo, .int .i64 hi] w (Ret w (.bool true)) := by
  go_enter Tryz.func83, Tryz.ntmps83
  go_wp2
  go_ret
  exact ⟨rfl, Below.refl _ _⟩
theorem l1In_f (n lo hi : Int) (w : World) (h : ¬ (lo ≤ n ∧ n ≤ hi)) : Calls Tryz.prog 83 #[.int .i64 n, .int .i64 lo, .int .i64 hi] w (Ret w (.bool false)) := by
  by_cases h1 : lo ≤ n
  · have h2 : hi < n := by omega
    have h3 : decide (n ≤ hi) = false := by simp; omega
    clear h
    go_enter Tryz.func83, Tryz.ntmps83
    go_wp2
    go_ret
    exact ⟨rfl, Below.refl _ _⟩
  · have h2 : n < lo := by omega
    clear h h1
    go_enter Tryz.func83, Tryz.ntmps83
    go_wp2
    go_ret
    exact ⟨rfl, Below.refl _ _⟩
theorem l1In_b (n lo hi : Int) (b : Bool) (w : World) (h : b = (decide (lo ≤ n) && decide (n ≤ hi))) : Calls Tryz.prog 83 #[.int .i64 n, .int .i64 lo, .int .i64 hi] w (Ret w (.bool b)) := by
  subst h
  by_cases h1 : lo ≤ n ∧ n ≤ hi
  · rw [decide_eq_true h1.1, decide_eq_true h1.2]; exact l1In_t n lo hi w h1.1 h1.2
  · have e : (decide (lo ≤ n) && decide (n ≤ hi)) = false := by simp; omega
    rw [e]; exact l1In_f n lo hi w h1
end Go.Proofs.YtkcgdnnipohehaaGreatDoor

/- What the program's and the reference's first functions on cells do: walks. -/
namespace Go.Proofs.YtkcgdnnipohehaaGreatDoor
open Go.RowKit
set_option linter.unusedVariables false
attribute [local go_sem ↓] Go.wp_at_zero Go.wp_at_succ

theorem beside_i (a b c d : Int) (w : World) : Calls Tryz.prog 149 #[.agg #[.int .i64 a, .int .i64 b], .agg #[.int .i64 c, .int .i64 d]] w (Ret w (.bool (nearI (a, b) (c, d)))) := by
  by_cases h1 : wrap64 (a - c) < wrap64 (c - a) <;> by_cases h2 : wrap64 (b - d) < wrap64 (d - b)
  all_goals
    have HV : Hid (nearI (a, b) (c, d) = (wrap64 ((if wrap64 (a - c) < wrap64 (c - a) then wrap64 (c - a) else wrap64 (a - c)) + (if wrap64 (b - d) < wrap64 (d - b) then wrap64 (d - b) else wrap64 (b - d))) == 1)) := rfl
    have H1 := Lib.hid h1
    have H2 := Lib.hid h2
    go_enter Tryz.func149, Tryz.ntmps149
    go_wp2
    go_quiet (fail)
    go_wp2
    go_ret
    have q1 := H1.out
    have q2 := H2.out
    exact ⟨by rw [HV.out]; first | (rw [if_pos q1, if_pos q2]; rfl) | (rw [if_pos q1, if_neg (Int.not_lt.2 q2)]; rfl) | (rw [if_neg (Int.not_lt.2 q1), if_pos q2]; rfl) | (rw [if_neg (Int.not_lt.2 q1), if_neg (Int.not_lt.2 q2)]; rfl), (by (repeat (first | with_reducible exact Below.refl _ _ | with_reducible assumption | with_reducible apply bel_alloc | with_reducible apply bel_drew | with_reducible apply bel_drewN | ((with_reducible refine bel_set ?_ ?_); rotate_left; (simp <;> omega)) | (with_reducible refine bel_trans ?_ (by with_reducible assumption)))))⟩
theorem l2Near_s (a b c d : Int) (w : World) : Calls Tryz.prog 105 #[.agg #[.int .i64 a, .int .i64 b], .agg #[.int .i64 c, .int .i64 d]] w (Ret w (.bool (nearS (a, b) (c, d)))) := by
  go_enter Tryz.func105, Tryz.ntmps105
  go_wp2
  go_ret
  exact ⟨rfl, (by (repeat (first | with_reducible exact Below.refl _ _ | with_reducible assumption | with_reducible apply bel_alloc | with_reducible apply bel_drew | with_reducible apply bel_drewN | ((with_reducible refine bel_set ?_ ?_); rotate_left; (simp <;> omega)) | (with_reducible refine bel_trans ?_ (by with_reducible assumption)))))⟩
theorem onBoard_i (a b : Int) (w : World) : Calls Tryz.prog 145 #[.agg #[.int .i64 a, .int .i64 b]] w (Ret w (.bool (onB (a, b)))) := by
  by_cases h1 : 0 ≤ a ∧ a ≤ 7
  · have hv : onB (a, b) = (decide (0 ≤ b) && decide (b ≤ 7)) := by simp [onB, h1]
    have HV := Lib.hid hv
    clear hv
    go_enter Tryz.func145, Tryz.ntmps145
    go_wp2_with fail
    refine (between_t _ _ _ _ (by omega) (by omega)).mono ?_
    rintro e w1 ⟨rfl, hb1⟩
    have k2 : w1.cell? ⟨w.heap.size, 1, none⟩ = some (.int .i64 b) := by simpa using ((Blk.new w 87 #[.int .i64 a, .int .i64 b]).below hb1).cell 1
    go_wp2_with fail
    refine (between_b _ _ _ _ _ rfl).mono ?_
    rintro e w2 ⟨rfl, hb2⟩
    go_wp2_with fail
    go_ret
    exact ⟨by rw [HV.out]; rfl, (by (repeat (first | with_reducible exact Below.refl _ _ | with_reducible assumption | with_reducible apply bel_alloc | with_reducible apply bel_drew | with_reducible apply bel_drewN | ((with_reducible refine bel_set ?_ ?_); rotate_left; (simp <;> omega)) | (with_reducible refine bel_trans ?_ (by with_reducible assumption)))))⟩
  · have hv : onB (a, b) = false := by simp [onB]; omega
    have HV := Lib.hid hv
    clear hv
    go_enter Tryz.func145, Tryz.ntmps145
    go_wp2_with (go_at_call 90; refine (between_f _ _ _ _ h1).mono ?_; rintro e w1 ⟨rfl, hb1⟩)
    go_ret
    exact ⟨by rw [HV.out]; rfl, (by (repeat (first | with_reducible exact Below.refl _ _ | with_reducible assumption | with_reducible apply bel_alloc | with_reducible apply bel_drew | with_reducible apply bel_drewN | ((with_reducible refine bel_set ?_ ?_); rotate_left; (simp <;> omega)) | (with_reducible refine bel_trans ?_ (by with_reducible assumption)))))⟩
theorem HasCell_i (A : Option Addr) (n c : Nat) (xs : List C) (x y : Int) (w : World) (hr : Rd w A (vC xs)) (hl : xs.length = n) (hn : n ≤ 1099511627776) :
    Calls Tryz.prog 148 #[.slice A n c, .int .i64 x, .int .i64 y] w (Ret w (.bool (hasC xs x y))) := by
  have HL := Lib.hid hl
  clear hl
  go_enter Tryz.func148, Tryz.ntmps148
  go_wp2
  go_loopw [11] (fun i wr => ∃ k : Nat, k ≤ n ∧ i = .int .i64 k ∧ hasC (xs.take k) x y = false ∧ Below w.heap.size w wr) (fun i _ => n - (intOf i).toNat)
  case atStart => exact ⟨0, Nat.zero_le _, rfl, rfl, Below.refl _ _⟩
  case round =>
    obtain ⟨k, hk, rfl, hno, hb⟩ := hrel
    by_cases hlt : k < n
    · have hkx : k < xs.length := by rw [HL.out]; omega
      obtain ⟨g, off, rfl, hgw, c1, c2⟩ := RdC.at_ (hr.below hb) hkx
      have ht := any_take (fun c => c.1 == x && c.2 == y) xs k hkx
      have hf := any_full (fun c => c.1 == x && c.2 == y) xs k hkx
      obtain ⟨⟨a, b⟩, hx⟩ : ∃ p, xs[k] = p := ⟨_, rfl⟩
      rw [hx] at c1 c2 ht hf
      have HT := Lib.hid ht
      have HF := Lib.hid hf
      have HN := Lib.hid hno
      clear ht hf hx hno
      by_cases h1 : a = x
      · by_cases h2 : b = y
        · have HV : Hid (hasC xs x y = true) := HF.out (by simp [h1, h2])
          have e1 : (a == x) = true := by simp [h1]
          have e2 : (b == y) = true := by simp [h2]
          clear h1 h2 HF
          go_wp2
          go_ret
          exact ⟨by rw [HV.out]; rfl, (by (repeat (first | with_reducible exact Below.refl _ _ | with_reducible assumption | with_reducible apply bel_alloc | with_reducible apply bel_drew | with_reducible apply bel_drewN | ((with_reducible refine bel_set ?_ ?_); rotate_left; (simp <;> omega)) | (with_reducible refine bel_trans ?_ (by with_reducible assumption)))))⟩
        · have HV : Hid (hasC (xs.take (k + 1)) x y = false) := by
            show hasC (xs.take (k + 1)) x y = false
            rw [show hasC (xs.take (k + 1)) x y = _ from HT.out, show ((xs.take k).any fun c => c.1 == x && c.2 == y) = false from HN.out]; simp [h2]
          have e1 : (a == x) = true := by simp [h1]
          have e2 : (b == y) = false := by simp [h2]
          clear h1 h2
          go_wp2
          exact ⟨⟨k + 1, by omega, by go_num, HV.out, (by (repeat (first | with_reducible exact Below.refl _ _ | with_reducible assumption | with_reducible apply bel_alloc | with_reducible apply bel_drew | with_reducible apply bel_drewN | ((with_reducible refine bel_set ?_ ?_); rotate_left; (simp <;> omega)) | (with_reducible refine bel_trans ?_ (by with_reducible assumption)))))⟩, by simp [intOf]; omega⟩
      · have HV : Hid (hasC (xs.take (k + 1)) x y = false) := by
          show hasC (xs.take (k + 1)) x y = false
          rw [show hasC (xs.take (k + 1)) x y = _ from HT.out, show ((xs.take k).any fun c => c.1 == x && c.2 == y) = false from HN.out]; simp [h1]
        have e1 : (a == x) = false := by simp [h1]
        clear h1
        go_wp2
        exact ⟨⟨k + 1, by omega, by go_num, HV.out, (by (repeat (first | with_reducible exact Below.refl _ _ | with_reducible assumption | with_reducible apply bel_alloc | with_reducible apply bel_drew | with_reducible apply bel_drewN | ((with_reducible refine bel_set ?_ ?_); rotate_left; (simp <;> omega)) | (with_reducible refine bel_trans ?_ (by with_reducible assumption)))))⟩, by simp [intOf]; omega⟩
    · have hkk : k = n := by omega
      subst hkk
      rw [List.take_of_length_le (by rw [HL.out]; omega)] at hno
      have HV := Lib.hid hno
      clear hno
      go_wp2
      go_ret
      exact ⟨by rw [HV.out]; rfl, (by (repeat (first | with_reducible exact Below.refl _ _ | with_reducible assumption | with_reducible apply bel_alloc | with_reducible apply bel_drew | with_reducible apply bel_drewN | ((with_reducible refine bel_set ?_ ?_); rotate_left; (simp <;> omega)) | (with_reducible refine bel_trans ?_ (by with_reducible assumption)))))⟩
theorem HasCell_s (A : Option Addr) (n c : Nat) (xs : List C) (x y : Int) (w : World) (hr : Rd w A (vC xs)) (hl : xs.length = n) (hn : n ≤ 1099511627776) :
    Calls Tryz.prog 98 #[.slice A n c, .int .i64 x, .int .i64 y] w (Ret w (.bool (hasC xs x y))) := by
  have HL := Lib.hid hl
  clear hl
  go_enter Tryz.func98, Tryz.ntmps98
  go_wp2
  go_loopw [7] (fun i wr => ∃ k : Nat, k ≤ n ∧ i = .int .i64 k ∧ hasC (xs.take k) x y = false ∧ Below w.heap.size w wr) (fun i _ => n - (intOf i).toNat)
  case atStart => exact ⟨0, Nat.zero_le _, rfl, rfl, Below.refl _ _⟩
  case round =>
    obtain ⟨k, hk, rfl, hno, hb⟩ := hrel
    by_cases hlt : k < n
    · have hkx : k < xs.length := by rw [HL.out]; omega
      obtain ⟨g, off, rfl, hgw, c1, c2⟩ := RdC.at_ (hr.below hb) hkx
      have ht := any_take (fun c => c.1 == x && c.2 == y) xs k hkx
      have hf := any_full (fun c => c.1 == x && c.2 == y) xs k hkx
      obtain ⟨⟨a, b⟩, hx⟩ : ∃ p, xs[k] = p := ⟨_, rfl⟩
      rw [hx] at c1 c2 ht hf
      have HT := Lib.hid ht
      have HF := Lib.hid hf
      have HN := Lib.hid hno
      clear ht hf hx hno
      by_cases h1 : a = x
      · by_cases h2 : b = y
        · have HV : Hid (hasC xs x y = true) := HF.out (by simp [h1, h2])
          have e1 : (a == x) = true := by simp [h1]
          have e2 : (b == y) = true := by simp [h2]
          clear h1 h2 HF
          go_wp2
          go_ret
          exact ⟨by rw [HV.out]; rfl, (by (repeat (first | with_reducible exact Below.refl _ _ | with_reducible assumption | with_reducible apply bel_alloc | with_reducible apply bel_drew | with_reducible apply bel_drewN | ((with_reducible refine bel_set ?_ ?_); rotate_left; (simp <;> omega)) | (with_reducible refine bel_trans ?_ (by with_reducible assumption)))))⟩
        · have HV : Hid (hasC (xs.take (k + 1)) x y = false) := by
            show hasC (xs.take (k + 1)) x y = false
            rw [show hasC (xs.take (k + 1)) x y = _ from HT.out, show ((xs.take k).any fun c => c.1 == x && c.2 == y) = false from HN.out]; simp [h2]
          have e1 : (a == x) = true := by simp [h1]
          have e2 : (b == y) = false := by simp [h2]
          clear h1 h2
          go_wp2
          exact ⟨⟨k + 1, by omega, by go_num, HV.out, (by (repeat (first | with_reducible exact Below.refl _ _ | with_reducible assumption | with_reducible apply bel_alloc | with_reducible apply bel_drew | with_reducible apply bel_drewN | ((with_reducible refine bel_set ?_ ?_); rotate_left; (simp <;> omega)) | (with_reducible refine bel_trans ?_ (by with_reducible assumption)))))⟩, by simp [intOf]; omega⟩
      · have HV : Hid (hasC (xs.take (k + 1)) x y = false) := by
          show hasC (xs.take (k + 1)) x y = false
          rw [show hasC (xs.take (k + 1)) x y = _ from HT.out, show ((xs.take k).any fun c => c.1 == x && c.2 == y) = false from HN.out]; simp [h1]
        have e1 : (a == x) = false := by simp [h1]
        clear h1
        go_wp2
        exact ⟨⟨k + 1, by omega, by go_num, HV.out, (by (repeat (first | with_reducible exact Below.refl _ _ | with_reducible assumption | with_reducible apply bel_alloc | with_reducible apply bel_drew | with_reducible apply bel_drewN | ((with_reducible refine bel_set ?_ ?_); rotate_left; (simp <;> omega)) | (with_reducible refine bel_trans ?_ (by with_reducible assumption)))))⟩, by simp [intOf]; omega⟩
    · have hkk : k = n := by omega
      subst hkk
      rw [List.take_of_length_le (by rw [HL.out]; omega)] at hno
      have HV := Lib.hid hno
      clear hno
      go_wp2
      go_ret
      exact ⟨by rw [HV.out]; rfl, (by (repeat (first | with_reducible exact Below.refl _ _ | with_reducible assumption | with_reducible apply bel_alloc | with_reducible apply bel_drew | with_reducible apply bel_drewN | ((with_reducible refine bel_set ?_ ?_); rotate_left; (simp <;> omega)) | (with_reducible refine bel_trans ?_ (by with_reducible assumption)))))⟩
end Go.Proofs.YtkcgdnnipohehaaGreatDoor

/- A move of the walk through a region that draws its order: an operation is taken first, its slot named. -/
namespace Go.Proofs.YtkcgdnnipohehaaGreatDoor
section
variable {P : Program} {ops : Array Oper} {Q : Exit → Act → World → Prop} {md : Region.Mode} {S : World → Prop}
theorem wpT {i d : Nat} {oi : Oper} {v : Value} {fuel : Nat} {listed : Array Bool} {t : Array Value} {ds : List Deferred} {w : World} (hi : ops[i]? = some oi) (hd : oi.dst = some d)
    (hs : Region.noSelect ops = true) (hf : Region.free md ops listed i = true) (hr : (Region.ready md ops listed).contains i = true)
    (hQ : ∀ c a w, Q (.panic c) (a.put (some d) v) w → Q (.panic c) a w) (hy : YieldsIf P ops S oi v { tmps := t, defers := ds }) (hS : S w)
    (h : wpAnyH P md ops Q S fuel (listed.setIfInBounds i true) { tmps := t.setIfInBounds d v, defers := ds } w) : wpAnyH P md ops Q S (fuel + 1) listed { tmps := t, defers := ds } w :=
  wpAnyH_take hi hs hf hr (by rw [hd]; exact hQ) hy hS (by rw [hd]; exact h)
end
end Go.Proofs.YtkcgdnnipohehaaGreatDoor
