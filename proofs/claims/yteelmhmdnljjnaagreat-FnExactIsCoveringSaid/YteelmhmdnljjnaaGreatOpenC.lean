/- An argument that is a slice of cells, opened. -/
import Derived.Test.YteelmhmdnljjnaaGreatPost
namespace Go.Proofs.YteelmhmdnljjnaaGreat
open Go.RowKit Go.ChangeShapes Go.WideShapes Go.Deep
set_option linter.unusedVariables false
section
variable {H : Type} {enc : TypeId × Value → H} {P : Program} {w : World} {base : Nat} {spare : Nat → Bool} {held : Bool}
theorem open_slice_fields {t e : TypeId} {fs : Array Field} {fuel : Nat} {cs : List Value} {x : DataW H × List MemPlace} (ht : P.underlying t = some (.slice e)) (he : P.underlying e = some (.struct fs))
    (hone : oneCellFields P fs = true) (hC : P.cellsOf e = fs.size) (h : DataW.trod enc P w base spare held fuel t cs = some x) :
    (cs = [.slice none 0 0] ∧ x = (.nil, [])) ∨
    ∃ (a : Addr) (len cap m : Nat) (D : Nat → DataW H) (Pl : Nat → List MemPlace), cs = [.slice (some a) len cap] ∧ base ≤ a.block ∧ len ≤ cap ∧ cap ≤ maxLen ∧ m = (if spare a.block then cap else len) ∧
      x = (.slice ((List.range len).map D) ((List.range (m - len)).map fun j => D (len + j)), MemPlace.row a (m * fs.size) ++ (List.range m).flatMap Pl) ∧
      ∀ i, i < m → ∃ (ys : List (DataW H × List MemPlace)) (n : Nat), D i = .agg (ys.map (·.1)) ∧ Pl i = ys.flatMap (·.2) ∧ ys.length = fs.size ∧
        ∀ (j : Nat) (f : Field), fs[j]? = some f → ∃ (v : Value) (y : DataW H × List MemPlace), w.cell? (a.add (i * fs.size + j)) = some v ∧ ys[j]? = some y ∧ DataW.trod enc P w base spare held n f.type [v] = some y := by
  rcases open_slice ht h with h0 | ⟨a, len, cap, m, n, D, Pl, hcs, hb, hl, hm, hmm, hx, hi⟩
  · exact .inl h0
  · refine .inr ⟨a, len, cap, m, D, Pl, hcs, hb, hl, hm, hmm, by rw [hC] at hx; exact hx, fun i him => ?_⟩
    obtain ⟨cs', hc, ht'⟩ := hi i him
    rw [hC] at hc
    obtain ⟨ys, n', hn', hy, hlen, hyl, hf⟩ := DataW.trod_struct he ht'
    obtain ⟨_, hcl, hat⟩ := World.cells?_some hc
    simp only [Prod.mk.injEq] at hy
    refine ⟨ys, n', hy.1, hy.2, hyl, fun j f hj => ?_⟩
    obtain ⟨ho, hk⟩ := hone_of hone j f hj
    have hjl : j < fs.size := (Array.getElem?_eq_some_iff.1 hj).1
    have hcell := hat j hjl
    have hv : cs'[j]? = some (cs'[j]'(by omega)) := List.getElem?_eq_getElem (by omega)
    have h1 := hf j f hj
    rw [ho, hk] at h1
    have hone' : (cs'.drop j).take 1 = [cs'[j]'(by omega)] := by
      rw [List.drop_eq_getElem_cons (by omega)]
      rfl
    rw [hone'] at h1
    have hys : ys[j]? = some (ys[j]'(by omega)) := List.getElem?_eq_getElem (by omega)
    refine ⟨_, _, ?_, hys, h1.trans hys⟩
    rw [← Go.Deep.add_add, hcell, hv]
end
theorem cellsLC : Tryz.prog.cellsOf 83 = 2 := by kernel_rfl

section
variable {H : Type} {enc : TypeId × Value → H}
set_option maxRecDepth 100000 in
theorem openC_core {W : World} {base : Nat} {spare : Nat → Bool} {held : Bool} {fuel : Nat} {v : Value} {x : DataW H × List MemPlace} (hf : DataW.trod enc Tryz.prog W base spare held fuel 54 [v] = some x) :
    ∃ A n c xs, v = .slice A n c ∧ Rd W A (vC xs) ∧ xs.length = n ∧ n ≤ maxLen := by
  rcases open_slice_fields Tryz.underlying54 Tryz.underlying83 (by kernel_rfl) cellsLC hf with ⟨hcs, hx⟩ | ⟨a, len, cap', m, D, Pl, hcs, _, hl, hm, hmm, hx, hfe⟩
  · injection hcs with hcs
    exact ⟨none, 0, 0, [], hcs, .inl rfl, rfl, Nat.zero_le _⟩
  · injection hcs with hcs
    subst hcs
    have hml : len ≤ m := by rw [hmm]; split <;> omega
    have hone : ∀ i, i < len → ∃ q : C, W.cell? (a.add (i * 2)) = some (.int .i64 q.1) ∧ W.cell? (a.add (i * 2 + 1)) = some (.int .i64 q.2) := by
      intro i hi
      obtain ⟨ys, n, _, _, _, hfi⟩ := hfe i (by omega)
      obtain ⟨v0, y0, hc0, _, ht0⟩ := hfi 0 _ rfl
      obtain ⟨v1, y1, hc1, _, ht1⟩ := hfi 1 _ rfl
      obtain ⟨x, e0, _, _⟩ := DataW.trod_int Tryz.underlying3 ht0
      obtain ⟨y, e1, _, _⟩ := DataW.trod_int Tryz.underlying3 ht1
      simp at e0 e1
      subst e0 e1
      exact ⟨(x, y), hc0, hc1⟩
    have hlist : ∀ k, k ≤ len → ∃ xs : List C, xs.length = k ∧ ∀ i (h : i < xs.length), W.cell? (a.add (i * 2)) = some (.int .i64 xs[i].1) ∧ W.cell? (a.add (i * 2 + 1)) = some (.int .i64 xs[i].2) := by
      intro k
      induction k with
      | zero => intro _; exact ⟨[], rfl, fun i h => by simp at h⟩
      | succ k ih =>
        intro hk
        obtain ⟨xs, hxl, hxs⟩ := ih (by omega)
        obtain ⟨q, hq⟩ := hone k (by omega)
        refine ⟨xs ++ [q], by simp [hxl], fun i h => ?_⟩
        by_cases hi : i < xs.length
        · simp only [List.getElem_append_left hi]; exact hxs i hi
        · have : i = k := by simp at h; omega
          subst this
          simp only [List.getElem_append_right (by omega : xs.length ≤ i), hxl, Nat.sub_self, List.getElem_cons_zero]
          exact hq
    obtain ⟨xs, hxl, hxs⟩ := hlist len (Nat.le_refl _)
    refine ⟨_, _, _, xs, rfl, ?_, hxl, by omega⟩
    by_cases h0 : 0 < xs.length
    · obtain ⟨b, off, spot⟩ := a
      have hsp : spot = none := by simpa [Addr.add] using World.cell?_spot (hxs 0 h0).1
      subst hsp
      refine .inr ⟨b, off, rfl, fun j u hu => ?_⟩
      have hj : j < xs.length * 2 := by
        rcases Nat.lt_or_ge j (xs.length * 2) with h | h
        · exact h
        · rw [List.getElem?_eq_none (by rw [vC_length]; omega)] at hu; cases hu
      have e : ∀ n, (⟨b, off, none⟩ : Addr).add n = ⟨b, off + n, none⟩ := by intro n; unfold Addr.add; split <;> simp_all
      obtain ⟨h1, h2⟩ := hxs (j / 2) (by omega)
      rw [e] at h1 h2
      rcases (by omega : j = j / 2 * 2 ∨ j = j / 2 * 2 + 1) with hj2 | hj2
      · rw [hj2, vC_get1 xs (j / 2) (by omega)] at hu
        rw [hj2, ← hu]; exact h1
      · rw [hj2, vC_get2 xs (j / 2) (by omega)] at hu
        rw [hj2, ← hu]; exact h2
    · left
      rw [List.eq_nil_of_length_eq_zero (by omega : xs.length = 0)]
      rfl
set_option maxRecDepth 100000 in
theorem openC {W : World} {r : Reach} {b0 : Nat} {base : Nat} {spare : Nat → Bool} {held : Bool} {v : Value} {d : DataW H} {p : List MemPlace} (hv : Value.okWide Tryz.prog W r b0 54 v) (h : DataW.Trod enc Tryz.prog W base spare held 54 v d p) :
    ∃ A n c xs, v = .slice A n c ∧ Rd W A (vC xs) ∧ xs.length = n ∧ n ≤ maxLen := by
  obtain ⟨a0, len, cap, rfl⟩ := okWide_slice Tryz.underlying54 hv
  obtain ⟨fuel, hf⟩ := h
  exact openC_core (v := .slice a0 len cap) (by simpa [Value.cells] using hf)
end
end Go.Proofs.YteelmhmdnljjnaaGreat
