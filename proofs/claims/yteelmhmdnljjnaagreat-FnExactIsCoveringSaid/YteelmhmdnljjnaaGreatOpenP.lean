/- Slices of slices of cells: read, opened. -/
import Derived.Test.YteelmhmdnljjnaaGreatOpenC
import Derived.Test.YteelmhmdnljjnaaGreatMem
namespace Go.Proofs.YteelmhmdnljjnaaGreat
open Go.RowKit Go.ChangeShapes Go.WideShapes Go.Deep
set_option linter.unusedVariables false
/-- A slice of slices of cells, as it reads. -/
structure RdP (w : World) (A : Option Addr) (n : Nat) (hs : List H) (F : List (List C)) : Prop where
  top : Rd w A (vS hs)
  hlen : hs.length = n
  flen : F.length = n
  row : ∀ k (a : k < hs.length) (b : k < F.length), F[k].length = hs[k].2.1 ∧ Rd w hs[k].1 (vC F[k])
theorem RdP.below {w w' : World} {A : Option Addr} {n : Nat} {hs : List H} {F : List (List C)} (h : RdP w A n hs F) (hb : Below w.heap.size w w') : RdP w' A n hs F :=
  ⟨h.top.below hb, h.hlen, h.flen, fun k a b => ⟨(h.row k a b).1, (h.row k a b).2.below hb⟩⟩
theorem RdP.alloc {w : World} {A : Option Addr} {n : Nat} {hs : List H} {F : List (List C)} (h : RdP w A n hs F) (o : Obj) : RdP (w.alloc o) A n hs F := h.below (Below.alloc (Below.refl _ _) (Nat.le_refl _) o)
theorem RdP.nil (w : World) : RdP w none 0 [] [] := ⟨.inl rfl, rfl, rfl, fun k a => by simp at a⟩
theorem RdP.at_ {w : World} {A : Option Addr} {n : Nat} {hs : List H} {F : List (List C)} (h : RdP w A n hs F) {k : Nat} (hk : k < n) :
    ∃ (x : H) (f : List C) (g off : Nat), hs[k]? = some x ∧ F[k]? = some f ∧ A = some ⟨g, off, none⟩ ∧ g < w.heap.size ∧ w.cell? ⟨g, off + k, none⟩ = some (.slice x.1 x.2.1 x.2.2) ∧ f.length = x.2.1 ∧ Rd w x.1 (vC f) := by
  have a : k < hs.length := by rw [h.hlen]; exact hk
  have b : k < F.length := by rw [h.flen]; exact hk
  obtain ⟨g, off, e, hg, c1⟩ := RdS.at_ h.top a
  exact ⟨hs[k], F[k], g, off, List.getElem?_eq_getElem a, List.getElem?_eq_getElem b, e, hg, c1, (h.row k a b).1, (h.row k a b).2⟩
theorem cellsLCS : Tryz.prog.cellsOf 54 = 1 := by kernel_rfl
section
variable {H' : Type} {enc : TypeId × Value → H'}
set_option maxRecDepth 100000 in
theorem openP {W : World} {r : Reach} {b0 : Nat} {base : Nat} {spare : Nat → Bool} {held : Bool} {v : Value} {d : DataW H'} {p : List MemPlace} (hv : Value.okWide Tryz.prog W r b0 25 v) (h : DataW.Trod enc Tryz.prog W base spare held 25 v d p) :
    ∃ A n c xs, v = .slice A n c ∧ (∃ hs, RdP W A n hs xs ∧ ∀ x ∈ hs, x.2.1 ≤ maxLen) ∧ xs.length = n ∧ n ≤ maxLen := by
  obtain ⟨a0, len, cap, rfl⟩ := okWide_slice Tryz.underlying25 hv
  obtain ⟨fuel, hf⟩ := h
  rcases open_slice1 Tryz.underlying25 cellsLCS hf with ⟨hcs, hx⟩ | ⟨a, len', cap', m, n, V, D, Pl, hcs, _, hl, hm, hmm, hx, hi⟩
  · simp [Value.cells] at hcs
    obtain ⟨rfl, rfl, rfl⟩ := hcs
    exact ⟨none, 0, 0, [], rfl, ⟨[], RdP.nil W, by simp⟩, rfl, Nat.zero_le _⟩
  · simp [Value.cells] at hcs
    obtain ⟨rfl, rfl, rfl⟩ := hcs
    have hml : len ≤ m := by rw [hmm]; split <;> omega
    have hlist : ∀ k, k ≤ len → ∃ (hs : List H) (F : List (List C)), hs.length = k ∧ F.length = k ∧ (∀ x ∈ hs, x.2.1 ≤ maxLen) ∧ (∀ i (h : i < hs.length), W.cell? (a.add i) = some (hd hs[i])) ∧ ∀ i (h1 : i < hs.length) (h2 : i < F.length), F[i].length = hs[i].2.1 ∧ Rd W hs[i].1 (vC F[i]) := by
      intro k
      induction k with
      | zero => intro _; exact ⟨[], [], rfl, rfl, by simp, fun i h => by simp at h, fun i h => by simp at h⟩
      | succ k ih =>
        intro hk
        obtain ⟨hs, F, hl1, hl2, hq0, hq1, hq2⟩ := ih (by omega)
        obtain ⟨hc, ht⟩ := hi k (by omega)
        obtain ⟨A, n', c', xs, hV, hrd, hxl, hnm⟩ := openC_core ht
        refine ⟨hs ++ [(A, n', c')], F ++ [xs], by simp [hl1], by simp [hl2], fun x hx => ?_, fun i h => ?_, fun i h1 h2 => ?_⟩
        · rcases List.mem_append.1 hx with hx | hx
          · exact hq0 x hx
          · simp only [List.mem_singleton] at hx; subst hx; exact hnm
        · by_cases hi : i < hs.length
          · simp only [List.getElem_append_left hi]; exact hq1 i hi
          · have : i = k := by simp at h; omega
            subst this
            simp only [List.getElem_append_right (by omega : hs.length ≤ i), hl1, Nat.sub_self, List.getElem_cons_zero]
            rw [hc, hV]; rfl
        · by_cases hi : i < hs.length
          · simp only [List.getElem_append_left hi, List.getElem_append_left (by omega : i < F.length)]; exact hq2 i hi (by omega)
          · have : i = k := by simp at h1; omega
            subst this
            simp only [List.getElem_append_right (by omega : hs.length ≤ i), hl1, Nat.sub_self, List.getElem_cons_zero, List.getElem_append_right (by omega : F.length ≤ i), hl2]
            exact ⟨hxl, hrd⟩
    obtain ⟨hs, F, hl1, hl2, hq0, hq1, hq2⟩ := hlist len (Nat.le_refl _)
    refine ⟨_, _, _, F, rfl, ⟨hs, ⟨?_, hl1, hl2, hq2⟩, hq0⟩, hl2, by omega⟩
    by_cases h0 : 0 < hs.length
    · obtain ⟨b, off, spot⟩ := a
      have hsp : spot = none := by simpa [Addr.add] using World.cell?_spot (hq1 0 h0)
      subst hsp
      refine .inr ⟨b, off, rfl, fun j u hu => ?_⟩
      have e : ∀ n, (⟨b, off, none⟩ : Addr).add n = ⟨b, off + n, none⟩ := by intro n; unfold Addr.add; split <;> simp_all
      simp only [vS, List.getElem?_map, Option.map_eq_some_iff] at hu
      obtain ⟨y, hy, rfl⟩ := hu
      obtain ⟨hj, rfl⟩ := List.getElem?_eq_some_iff.1 hy
      have := hq1 j hj
      rw [e] at this
      exact this
    · left
      rw [List.eq_nil_of_length_eq_zero (by omega : hs.length = 0)]
      rfl
end
end Go.Proofs.YteelmhmdnljjnaaGreat
