/- Headers of rows that are only read; two slices that grow side by side. -/
import Derived.Test.YtemmbpmgfjodnaaMem
import Derived.Test.YtemmbpmgfjodnaaNest
namespace Go.Proofs.Ytemmbpmgfjodnaa
open Go.RowKit
set_option linter.unusedVariables false
/-- The rows behind some headers read as lists of integers, none of them empty. -/
structure RowsH (w : World) (hs : List H) (F : List (List Int)) : Prop where
  len : hs.length = F.length
  at_ : ∀ k (a : k < hs.length) (b : k < F.length), hs[k].2.1 = F[k].length ∧ 0 < F[k].length ∧ Rd w hs[k].1 (vI F[k])
def away (hs : List H) (g : Nat) : Prop := ∀ h ∈ hs, ob h.1 ≠ some g
section
variable {w w' : World} {hs : List H} {F : List (List Int)}
theorem Rd.blk {A : Option Addr} {f : List Int} (h : Rd w A (vI f)) (hp : 0 < f.length) : ∃ g, ob A = some g ∧ g < w.heap.size := by
  obtain ⟨g, off, rfl, hg, _⟩ := RdI.at_ h hp
  exact ⟨g, rfl, hg⟩
theorem RowsH.nil (w : World) : RowsH w [] [] := ⟨rfl, fun k h => by simp at h⟩
theorem RowsH.below (h : RowsH w hs F) (hb : Below w.heap.size w w') : RowsH w' hs F := ⟨h.len, fun k a b => ⟨(h.at_ k a b).1, (h.at_ k a b).2.1, (h.at_ k a b).2.2.below hb⟩⟩
theorem RowsH.lt (h : RowsH w hs F) : ∀ x ∈ hs, ∃ g, ob x.1 = some g ∧ g < w.heap.size := by
  intro x hx
  obtain ⟨k, hk, rfl⟩ := List.mem_iff_getElem.1 hx
  have := h.at_ k hk (by rw [← h.len]; exact hk)
  exact this.2.2.blk this.2.1
theorem RowsH.grown {row : Option Nat} (h : RowsH w hs F) (hg : w.grownBy w' row) (hn : ∀ g, row = some g → away hs g) : RowsH w' hs F :=
  ⟨h.len, fun k a b => ⟨(h.at_ k a b).1, (h.at_ k a b).2.1, (h.at_ k a b).2.2.grown hg fun g he e => hn g e.symm _ (List.getElem_mem a) he⟩⟩
theorem RowsH.push (h : RowsH w hs F) {A : Option Addr} {n c : Nat} {f : List Int} (hr : Rd w A (vI f)) (hn : n = f.length) (hp : 0 < f.length) : RowsH w (hs ++ [(A, n, c)]) (F ++ [f]) := by
  refine ⟨by simp [h.len], fun k a b => ?_⟩
  by_cases hk : k < hs.length
  · simp only [List.getElem_append_left hk, List.getElem_append_left (h.len ▸ hk : k < F.length)]
    exact h.at_ k hk _
  · have e : k = hs.length := by simp at a; omega
    subst e
    simp only [List.getElem_append_right (Nat.le_refl _), List.getElem_append_right (Nat.le_of_eq h.len.symm), Nat.sub_self]
    exact ⟨by simpa [h.len] using hn, by simpa [h.len] using hp, by simpa [h.len] using hr⟩
theorem away_push {g : Nat} {h : H} (ha : away hs g) (h1 : ob h.1 ≠ some g) : away (hs ++ [h]) g := by
  intro x hx
  rcases List.mem_append.1 hx with hx | hx
  · exact ha x hx
  · simp only [List.mem_singleton] at hx; rw [hx]; exact h1
theorem RowsH.away_new (h : RowsH w hs F) {g : Nat} (hg : w.heap.size ≤ g) : away hs g := by
  intro x hx e
  obtain ⟨g', h1, h2⟩ := h.lt x hx
  rw [h1] at e
  injection e with e
  omega
end
/-- Two slices of the call's own that grow, a row of headers and their rows, a block beside them. -/
structure Two (base g0 : Nat) (t1 s1 : Nat) (vs : List Value) (A : Option Addr) (n c : Nat) (B : Option Addr) (c2 : Nat) (hs : List H) (F : List (List Int)) (cells : Array Value) (w : World) : Prop where
  own1 : w.ownsRow base t1 s1 (.slice A n c) n vs
  own2 : w.ownsRow base 44 1 (.slice B n c2) n (vS hs)
  rows : RowsH w hs F
  beside : Blk w g0 3 cells
  sepA : ∀ g, ob A = some g → ob B ≠ some g ∧ away hs g ∧ g ≠ g0
  sepB : ∀ g, ob B = some g → away hs g ∧ g ≠ g0
theorem Two.below {base g0 t1 s1 : Nat} {vs : List Value} {A : Option Addr} {n c : Nat} {B : Option Addr} {c2 : Nat} {hs : List H} {F : List (List Int)} {cells : Array Value} {w w' : World}
    (h : Two base g0 t1 s1 vs A n c B c2 hs F cells w) (hb : Below w.heap.size w w') : Two base g0 t1 s1 vs A n c B c2 hs F cells w' :=
  ⟨own_keep h.own1 hb, own_keep h.own2 hb, h.rows.below hb, h.beside.below hb, h.sepA, h.sepB⟩
theorem Two.push {base g0 t1 s1 : Nat} {vs vs' : List Value} {A A' : Option Addr} {n c c' : Nat} {B B' : Option Addr} {c2 c2' : Nat} {hs : List H} {F : List (List Int)} {cells : Array Value} {w1 w2 w2' w3 : World}
    {D : Option Addr} {cf : Nat} {f : List Int} {o1 : Obj}
    (h : Two base g0 t1 s1 vs A n c B c2 hs F cells w1) (hf : Rd w1 D (vI f)) {nf : Nat} (hn : nf = f.length) (hp : 0 < f.length) (hfd : ∀ g, ob D = some g → ob A ≠ some g ∧ ob B ≠ some g)
    (ho1 : w2.ownsRow base t1 s1 (.slice A' (n + 1) c') (n + 1) vs') (hg1 : (w1.alloc o1).grownBy w2 (ob A)) (ha1 : ob A' = ob A ∨ ob A' = some (w1.alloc o1).heap.size)
    (hm : Below w2.heap.size w2 w2')
    (ho2 : w3.ownsRow base 44 1 (.slice B' (n + 1) c2') (n + 1) (vS (hs ++ [(D, nf, cf)]))) (hg2 : w2'.grownBy w3 (ob B)) (ha2 : ob B' = ob B ∨ ob B' = some w2'.heap.size) :
    Two base g0 t1 s1 vs' A' (n + 1) c' B' c2' (hs ++ [(D, nf, cf)]) (F ++ [f]) cells w3 := by
  obtain ⟨gf, hgf, hgl⟩ := hf.blk hp
  obtain ⟨hfa, hfb⟩ := hfd gf hgf
  have hz1 : (w1.alloc o1).heap.size = w1.heap.size + 1 := by simp
  have hz2 := hg1.size
  have hz3 := hm.size
  have hz4 := hg2.size
  rw [hz1] at ha1 hz2
  have hbl := h.beside.lt
  -- the blocks that were there
  have hAnew : ∀ g, ob A' = some g → ob A = some g ∨ g = w1.heap.size + 1 := fun g e => by
    rcases ha1 with h1 | h1
    · exact .inl (h1 ▸ e)
    · rw [h1] at e; injection e with e; exact .inr e.symm
  have hBnew : ∀ g, ob B' = some g → ob B = some g ∨ g = w2'.heap.size := fun g e => by
    rcases ha2 with h1 | h1
    · exact .inl (h1 ▸ e)
    · rw [h1] at e; injection e with e; exact .inr e.symm
  have hAlt := own_lt h.own1
  have hBlt := own_lt h.own2
  have r1 : RowsH w2 hs F := (h.rows.below (Below.alloc (Below.refl _ _) (Nat.le_refl _) o1)).grown hg1 fun g e => (h.sepA g e).2.1
  have f1 : Rd w2 D (vI f) := (hf.alloc o1).grown hg1 fun g he e => by rw [hgf] at he; injection he with he; subst he; exact hfa e.symm
  have k1 : Blk w2 g0 3 cells := (h.beside.alloc o1).grown hg1 fun e => (h.sepA g0 e.symm).2.2 rfl
  have r2 : RowsH w3 hs F := (r1.below hm).grown hg2 fun g e => (h.sepB g e).1
  have f2 : Rd w3 D (vI f) := (f1.below hm).grown hg2 fun g he e => by rw [hgf] at he; injection he with he; subst he; exact hfb e.symm
  have k2 : Blk w3 g0 3 cells := (k1.below hm).grown hg2 fun e => (h.sepB g0 e.symm).2 rfl
  have o1' : w3.ownsRow base t1 s1 (.slice A' (n + 1) c') (n + 1) vs' := (own_keep ho1 hm).kept hg2 (by
    rw [ownBlock_slice]
    cases hA : ob A' with
    | none => exact .inl rfl
    | some g =>
      right
      intro e
      rcases hAnew g hA with h1 | h1
      · exact (h.sepA g h1).1 e.symm
      · have := (hBlt g e.symm).2; omega)
  refine ⟨o1', ho2, r2.push f2 hn hp, k2, fun g hg => ?_, fun g hg => ?_⟩
  · rcases hAnew g hg with h1 | h1
    · obtain ⟨s1, s2, s3⟩ := h.sepA g h1
      refine ⟨fun e => ?_, away_push s2 (fun e => by rw [hgf] at e; injection e with e; subst e; exact hfa h1), s3⟩
      rcases hBnew g e with h2 | h2
      · exact s1 h2
      · have := (hAlt g h1).2; omega
    · refine ⟨fun e => ?_, away_push (h.rows.away_new (by omega)) (fun e => by rw [hgf] at e; injection e with e; omega), by omega⟩
      rcases hBnew g e with h2 | h2
      · have := (hBlt g h2).2; omega
      · have := (own_lt ho1 g hg).2; omega
  · rcases hBnew g hg with h1 | h1
    · obtain ⟨s2, s3⟩ := h.sepB g h1
      exact ⟨away_push s2 (fun e => by rw [hgf] at e; injection e with e; subst e; exact hfb h1), s3⟩
    · exact ⟨away_push (h.rows.away_new (by omega)) (fun e => by rw [hgf] at e; injection e with e; omega), by omega⟩
end Go.Proofs.Ytemmbpmgfjodnaa
