/- Slices of slices of integers: the rows' blocks, kept and written; append at such a slice. -/
import Derived.Test.YteelmhmdnljjnaaGreatMem
namespace Go.Proofs.YteelmhmdnljjnaaGreat
open Go.RowKit
set_option linter.unusedVariables false

/-- Rows that lie in blocks of their own. -/
structure Rows (w : World) (t : TypeId) (G : List Nat) (R : List (List Value)) : Prop where
  len : G.length = R.length
  nd : G.Nodup
  blk : ∀ i (h : i < G.length) (h' : i < R.length), Blk w G[i] t R[i].toArray
section
variable {w w' : World} {t : TypeId} {G : List Nat} {R : List (List Value)}
theorem Rows.nil (w : World) (t : TypeId) : Rows w t [] [] := ⟨rfl, List.nodup_nil, fun i h => by simp at h⟩
theorem Rows.below (h : Rows w t G R) (hb : Below w.heap.size w w') : Rows w' t G R := ⟨h.len, h.nd, fun i a b => (h.blk i a b).below hb⟩
theorem Rows.drew (h : Rows w t G R) : Rows w.drew t G R := ⟨h.len, h.nd, h.blk⟩
theorem Rows.alloc (h : Rows w t G R) (o : Obj) : Rows (w.alloc o) t G R := ⟨h.len, h.nd, fun i a b => (h.blk i a b).alloc o⟩
theorem Rows.grown {row : Option Nat} (h : Rows w t G R) (hg : w.grownBy w' row) (hn : ∀ g ∈ G, some g ≠ row) : Rows w' t G R :=
  ⟨h.len, h.nd, fun i a b => (h.blk i a b).grown hg (hn _ (List.getElem_mem a))⟩
theorem Rows.far (h : Rows w t G R) {p : Addr} (hp : p.block ∉ G) (u : Value) : Rows (w.setCell p u) t G R :=
  ⟨h.len, h.nd, fun i a b => (h.blk i a b).far (fun e => hp (e ▸ List.getElem_mem a)) u⟩
theorem Rows.lt (h : Rows w t G R) : ∀ g ∈ G, g < w.heap.size := by
  intro g hg
  obtain ⟨i, hi, rfl⟩ := List.mem_iff_getElem.1 hg
  exact (h.blk i hi (by rw [← h.len]; exact hi)).lt
theorem Rows.push (h : Rows w t G R) {g : Nat} {vs : List Value} (hb : Blk w g t vs.toArray) (hg : g ∉ G) : Rows w t (G ++ [g]) (R ++ [vs]) := by
  refine ⟨by simp [h.len], ?_, fun i a b => ?_⟩
  · rw [List.nodup_append]
    refine ⟨h.nd, by simp, fun x hx y hy => ?_⟩
    simp only [List.mem_singleton] at hy
    subst hy
    rintro rfl
    exact hg hx
  · by_cases hi : i < G.length
    · simp only [List.getElem_append_left hi, List.getElem_append_left (h.len ▸ hi : i < R.length)]
      exact h.blk i hi _
    · have e : i = G.length := by simp at a; omega
      subst e
      simp only [List.getElem_append_right (Nat.le_refl _), List.getElem_append_right (Nat.le_of_eq h.len.symm), Nat.sub_self]
      simpa [h.len] using hb
theorem Rows.set_ (h : Rows w t G R) {i : Nat} (hi : i < G.length) (hi' : i < R.length) (k : Nat) (u : Value) : Rows (w.setCell ⟨G[i], k, none⟩ u) t G (R.set i (R[i].set k u)) := by
  refine ⟨by simp [h.len], h.nd, fun j a b => ?_⟩
  by_cases e : i = j
  · subst e
    rw [List.getElem_set_self]
    simpa using (h.blk i hi hi').set_ k u
  · rw [List.getElem_set_ne e]
    refine (h.blk j a _).far ?_ u
    intro he
    have := (List.pairwise_iff_getElem.1 h.nd)
    rcases Nat.lt_or_gt_of_ne e with h1 | h1
    · exact this i j hi a h1 he.symm
    · exact this j i a hi h1 he
theorem Rows.cell (h : Rows w t G R) {i : Nat} (hi : i < G.length) (hi' : i < R.length) (k : Nat) : w.cell? ⟨G[i], k, none⟩ = R[i][k]? := by
  rw [(h.blk i hi hi').cell]; simp
end
theorem Rd.far {w : World} {A : Option Addr} {vs : List Value} (h : Rd w A vs) {p : Addr} (hp : ∀ g, ob A = some g → g ≠ p.block) (u : Value) : Rd (w.setCell p u) A vs := by
  rcases h with h | ⟨g, off, rfl, h⟩
  · exact .inl h
  · exact .inr ⟨g, off, rfl, fun j v hv => (World.cell?_setCell_other w p _ u (fun e => hp g rfl (by rw [e]))).trans (h j v hv)⟩
/-- The headers of rows of m. -/
def hds (m : Nat) (G : List Nat) : List H := G.map fun g => (some ⟨g, 0, none⟩, m, m)
theorem hds_length (m : Nat) (G : List Nat) : (hds m G).length = G.length := by simp [hds]
theorem hds_append (m : Nat) (G : List Nat) (g : Nat) : hds m (G ++ [g]) = hds m G ++ [(some ⟨g, 0, none⟩, m, m)] := by simp [hds]
theorem hds_get (m : Nat) (G : List Nat) (i : Nat) (h : i < G.length) : (hds m G)[i]'(by rw [hds_length]; exact h) = (some ⟨G[i], 0, none⟩, m, m) := by simp [hds]
theorem infoS : (Tryz.prog.info? 22).map (fun i => (i.zero, i.size, i.bytes)) = some (some (.slice none 0 0), 1, 24) := by kernel_rfl
section
variable (w : World) {ops : Array Oper} {rest : List Oper} {o : Oper} {a : Act} {Q : Exit → Act → World → Prop}
theorem app_S (hgd : o.guard = none) (s x : Operand) (ho : o.op = .call { callee := .builtin .append, args := #[s, x], argTypes := #[45, 45] })
    (base : Nat) (A : Option Addr) (n c : Nat) (l : List H) (hs : a.eval s = .slice A n c) (hown : w.ownsRow base 22 1 (.slice A n c) n (vS l))
    (A2 : Option Addr) (m c2 : Nat) (l2 : List H) (hx : a.eval x = .slice A2 m c2) (hr : Rd w A2 (vS l2)) (hl : l2.length = m) (hb : n + m ≤ 1099511627776) (hbase : base ≤ w.heap.size)
    (h : ∀ A' c' w', w'.ownsRow base 22 1 (.slice A' (n + m) c') (n + m) (vS (l ++ l2)) → w.grownBy w' (ob A) → (ob A' = ob A ∨ ob A' = some w.heap.size) → wpList Tryz.prog ops Q rest (a.put o.dst (.slice A' (n + m) c')) w') :
    wpList Tryz.prog ops Q (o :: rest) a w := by
  obtain ⟨i0, hi, hz0, hz1, hz2⟩ := info_parts infoS
  refine wpList_app w hgd s x _ ho base _ i0 _ 1 24 Tryz.underlying45 hi hz0 hz1 hz2 rfl (by omega) A n c _ hs hown A2 m c2 _ hx hr (by rw [vS_length, hl]; omega) (vS_one _) (by unfold maxLen; omega) (by omega) hbase ?_
  intro A' c' w' h1
  rw [← vS_append] at h1
  exact h A' c' w' h1
end
end Go.Proofs.YteelmhmdnljjnaaGreat
