/- Slices of slices of integers, all of it the call's own: made, kept, marked. -/
import Derived.Test.YtemmbpmgfjodnaaHdrs
namespace Go.Proofs.Ytemmbpmgfjodnaa
open Go.RowKit
set_option linter.unusedVariables false
structure Own2 (base : Nat) (w : World) (B : Option Addr) (n c : Nat) (hs : List H) (F : List (List Int)) : Prop where
  own : w.ownsRow base 44 1 (.slice B n c) n (vS hs)
  len : hs.length = F.length
  row : ∀ k (a : k < hs.length) (b : k < F.length), w.ownsRow base 3 1 (.slice hs[k].1 hs[k].2.1 hs[k].2.2) hs[k].2.1 (vI F[k])
  off : ∀ g, ob B = some g → away hs g
  sep : ∀ i j (a : i < hs.length) (b : j < hs.length), i ≠ j → ∀ g, ob hs[i].1 = some g → ob hs[j].1 ≠ some g
/-- A result that is a slice of slices of the call's own. -/
def RetO2 (w : World) (F : List (List Int)) (e : Ending) (w' : World) : Prop :=
  ∃ A n c hs, e = .returned (.slice A n c) ∧ Own2 w.heap.size w' A n c hs F ∧ Below w.heap.size w w'
section
variable {base : Nat} {w w' : World} {B : Option Addr} {n c : Nat} {hs : List H} {F : List (List Int)}
theorem Own2.nil (base : Nat) (w : World) : Own2 base w none 0 0 [] [] :=
  ⟨own_nil _ _ _ _, rfl, fun k a => by simp at a, fun g h => by simp [ob] at h, fun i j a => by simp at a⟩
theorem Own2.none_ (h : w.ownsRow base 44 1 (.slice B 0 c) 0 []) : Own2 base w B 0 c [] [] :=
  ⟨h, rfl, fun k a => by simp at a, fun g _ x hx => by simp at hx, fun i j a => by simp at a⟩
theorem Own2.hlen (h : Own2 base w B n c hs F) : hs.length = n := by have := own_len h.own; rw [vS_length] at this; omega
theorem Own2.flen (h : Own2 base w B n c hs F) : F.length = n := h.len ▸ h.hlen
theorem Own2.rlen (h : Own2 base w B n c hs F) {k : Nat} (a : k < hs.length) (b : k < F.length) : F[k].length = hs[k].2.1 := by have := own_len (h.row k a b); rw [vI_length] at this; omega
theorem Own2.below (h : Own2 base w B n c hs F) (hb : Below w.heap.size w w') : Own2 base w' B n c hs F :=
  ⟨own_keep h.own hb, h.len, fun k a b => own_keep (h.row k a b) hb, h.off, h.sep⟩
theorem own_mono2 {base' e size : Nat} {A : Option Addr} {xs : List Value} (h : w.ownsRow base e size (.slice A n c) n xs) (hb : base' ≤ base) : w.ownsRow base' e size (.slice A n c) n xs := by
  refine ⟨h.1, ?_⟩
  rcases h.2 with hn | ⟨g, cap, cur, hv, hg, hgg, rest⟩
  · exact .inl hn
  · exact .inr ⟨g, cap, cur, hv, Nat.le_trans hb hg, hgg, rest⟩
theorem Own2.mono {base' : Nat} (h : Own2 base w B n c hs F) (hb : base' ≤ base) : Own2 base' w B n c hs F :=
  ⟨own_mono2 h.own hb, h.len, fun k a b => own_mono2 (h.row k a b) hb, h.off, h.sep⟩
theorem own_kept {e size : Nat} {A : Option Addr} {xs : List Value} {row : Option Nat} (h : w.ownsRow base e size (.slice A n c) n xs) (hg : w.grownBy w' row) (hn : ∀ g, ob A = some g → row ≠ some g) : w'.ownsRow base e size (.slice A n c) n xs :=
  h.kept hg (by
    rw [ownBlock_slice]
    cases hA : ob A with
    | none => exact .inl rfl
    | some g => right; intro e; exact hn g hA e.symm)
theorem Own2.grown {row : Option Nat} (h : Own2 base w B n c hs F) (hg : w.grownBy w' row) (hn : ∀ g, row = some g → g < base) : Own2 base w' B n c hs F :=
  ⟨own_kept h.own hg fun g e r => by have := (own_lt h.own g e).1; have := hn g r; omega, h.len,
   fun k a b => own_kept (h.row k a b) hg fun g e r => by have := (own_lt (h.row k a b) g e).1; have := hn g r; omega, h.off, h.sep⟩
theorem Own2.at_ (h : Own2 base w B n c hs F) {k : Nat} (a : k < hs.length) : ∃ g off, B = some ⟨g, off, none⟩ ∧ g < w.heap.size ∧ w.cell? ⟨g, off + k, none⟩ = some (.slice hs[k].1 hs[k].2.1 hs[k].2.2) :=
  RdS.at_ (Rd.of_own h.own) a
theorem Own2.rd (h : Own2 base w B n c hs F) {k : Nat} (a : k < hs.length) (b : k < F.length) : Rd w hs[k].1 (vI F[k]) := Rd.of_own (h.row k a b)
/-- One row is written anew. -/
theorem Own2.put (h : Own2 base w B n c hs F) {k : Nat} (a : k < hs.length) (f : List Int) (hr : w'.ownsRow base 3 1 (.slice hs[k].1 hs[k].2.1 hs[k].2.2) hs[k].2.1 (vI f)) (hg : w.grownBy w' (ob hs[k].1)) :
    Own2 base w' B n c hs (F.set k f) := by
  refine ⟨own_kept h.own hg fun g e r => h.off g e _ (List.getElem_mem a) r, by simpa using h.len, fun j a' b' => ?_, h.off, h.sep⟩
  by_cases e : k = j
  · subst e
    rw [List.getElem_set_self]
    exact hr
  · rw [List.getElem_set_ne e]
    exact own_kept (h.row j a' (by simpa using b')) hg fun g e1 r => h.sep k j a a' e g r e1
/-- One row more. -/
theorem Own2.push {w3 : World} {g1 nf cf : Nat} {f : List Int} {B' : Option Addr} {c' : Nat}
    (h : Own2 base w B n c hs F) (hf : w'.ownsRow base 3 1 (.slice (some ⟨g1, 0, none⟩) nf cf) nf (vI f)) (hg1 : w.heap.size ≤ g1) (hb : Below w.heap.size w w')
    (ho : w3.ownsRow base 44 1 (.slice B' (n + 1) c') (n + 1) (vS (hs ++ [(some ⟨g1, 0, none⟩, nf, cf)]))) (hg : w'.grownBy w3 (ob B)) (ha : ob B' = ob B ∨ ob B' = some w'.heap.size) :
    Own2 base w3 B' (n + 1) c' (hs ++ [(some ⟨g1, 0, none⟩, nf, cf)]) (F ++ [f]) := by
  have hB := own_lt h.own
  have hf1 := (own_lt hf g1 rfl).2
  have hsz := hb.size
  have hold : ∀ k (a : k < hs.length) (b : k < F.length) g, ob hs[k].1 = some g → g < w.heap.size := fun k a b g e => (own_lt (h.row k a b) g e).2
  refine ⟨ho, by simp [h.len], fun k a b => ?_, fun g e => ?_, ?_⟩
  · by_cases hk : k < hs.length
    · have hk2 : k < F.length := h.len ▸ hk
      simp only [List.getElem_append_left hk, List.getElem_append_left hk2]
      exact own_kept (own_keep (h.row k hk hk2) hb) hg fun g e r => h.off g r _ (List.getElem_mem hk) e
    · have e : k = hs.length := by simp at a; omega
      subst e
      have e3 : (hs ++ [((some ⟨g1, 0, none⟩, nf, cf) : H)])[hs.length]'a = (some ⟨g1, 0, none⟩, nf, cf) := by simp
      have e4 : (F ++ [f])[hs.length]'b = f := by rw [List.getElem_append_right (Nat.le_of_eq h.len.symm)]; simp
      rw [e3, e4]
      exact own_kept hf hg fun g e r => by simp only [ob, Option.map_some, Option.some.injEq] at e; subst e; have := (hB _ r).2; omega
  · intro x hx
    rcases List.mem_append.1 hx with hx | hx
    · rcases ha with h1 | h1
      · exact h.off g (h1 ▸ e) x hx
      · rw [h1] at e
        injection e with e
        intro r
        obtain ⟨k, hk, rfl⟩ := List.mem_iff_getElem.1 hx
        have := hold k hk (h.len ▸ hk) g r
        omega
    · simp only [List.mem_singleton] at hx
      subst hx
      intro r
      simp only [ob, Option.map_some, Option.some.injEq] at r
      subst r
      rcases ha with h1 | h1
      · rw [h1] at e
        have := (hB _ e).2
        omega
      · rw [h1] at e
        injection e with e
        omega
  · have hn1 : ∀ i (a : i < hs.length) g, ob hs[i].1 = some g → ob (some (⟨g1, 0, none⟩ : Addr)) ≠ some g := fun i a g e r => by
      simp only [ob, Option.map_some, Option.some.injEq] at r
      subst r
      have := hold i a (h.len ▸ a) _ e
      omega
    intro i j a b hij g e
    by_cases hi : i < hs.length
    · by_cases hj : j < hs.length
      · simp only [List.getElem_append_left hi] at e
        simp only [List.getElem_append_left hj]
        exact h.sep i j hi hj hij g e
      · have ej : j = hs.length := by simp at b; omega
        subst ej
        simp only [List.getElem_append_left hi] at e
        simp only [List.getElem_append_right (Nat.le_refl _), Nat.sub_self, List.getElem_cons_zero]
        exact hn1 i hi g e
    · have ei : i = hs.length := by simp at a; omega
      subst ei
      have hj : j < hs.length := by simp at b; omega
      simp only [List.getElem_append_right (Nat.le_refl _), Nat.sub_self, List.getElem_cons_zero] at e
      simp only [List.getElem_append_left hj]
      exact fun r => hn1 j hj g r e
end
def total (F : List (List Int)) : Nat := (F.map List.length).sum
def markF : Int → List (List Int) → List (List Int)
  | _, [] => []
  | k, f :: t => io k f.length :: markF (k + f.length) t
theorem total_snoc (F : List (List Int)) (f : List Int) : total (F ++ [f]) = total F + f.length := by simp [total]
theorem total_append (F F2 : List (List Int)) : total (F ++ F2) = total F + total F2 := by simp [total]
theorem total_take (F : List (List Int)) (j : Nat) (h : j < F.length) : total (F.take (j + 1)) = total (F.take j) + F[j].length := by rw [List.take_succ_eq_append_getElem h, total_snoc]
theorem total_le (F : List (List Int)) (j : Nat) : total (F.take j) ≤ total F := by
  have := total_append (F.take j) (F.drop j)
  rw [List.take_append_drop] at this
  omega
theorem markF_len : ∀ (k : Int) (F : List (List Int)), (markF k F).length = F.length
  | _, [] => rfl
  | k, f :: t => by simp [markF, markF_len]
theorem markF_snoc : ∀ (k : Int) (F : List (List Int)) (f : List Int), markF k (F ++ [f]) = markF k F ++ [io (k + total F) f.length]
  | k, [], f => by simp [markF, total]
  | k, g :: t, f => by
    simp only [List.cons_append, markF, markF_snoc, total, List.map_cons, List.sum_cons, Int.natCast_add]
    rw [show k + (g.length : Int) + ((t.map List.length).sum : Nat) = k + ((g.length : Int) + ((t.map List.length).sum : Nat)) from by omega]
theorem markF_step (k : Int) (F : List (List Int)) (j : Nat) (h : j < F.length) :
    (markF k (F.take j) ++ F.drop j).set j (io (k + total (F.take j)) F[j].length) = markF k (F.take (j + 1)) ++ F.drop (j + 1) := by
  have hl : (markF k (F.take j)).length = j := by rw [markF_len, List.length_take]; omega
  rw [List.set_append_right _ _ (by omega), hl, Nat.sub_self, List.take_succ_eq_append_getElem h, markF_snoc, List.append_assoc, List.drop_eq_getElem_cons h]
  rfl
theorem markF_get (k : Int) (F : List (List Int)) (j : Nat) (h : j < F.length) : (markF k F)[j]'(by rw [markF_len]; exact h) = io (k + total (F.take j)) F[j].length := by
  have h1 := markF_snoc k (F.take j) F[j]
  rw [← List.take_succ_eq_append_getElem h] at h1
  have h2 : markF k F = markF k (F.take (j + 1)) ++ markF (k + total (F.take (j + 1))) (F.drop (j + 1)) := by
    have : ∀ (F1 : List (List Int)) (k : Int) (F2 : List (List Int)), markF k (F1 ++ F2) = markF k F1 ++ markF (k + total F1) F2 := by
      intro F1
      induction F1 with
      | nil => intro k F2; simp [markF, total]
      | cons g t ih =>
        intro k F2
        simp only [List.cons_append, markF, ih, total, List.map_cons, List.sum_cons, Int.natCast_add]
        rw [show k + (g.length : Int) + ((t.map List.length).sum : Nat) = k + ((g.length : Int) + ((t.map List.length).sum : Nat)) from by omega]
    rw [← this, List.take_append_drop]
  have hl : (markF k (F.take j)).length = j := by rw [markF_len, List.length_take]; omega
  have h3 : (markF k F)[j]? = some (io (k + total (F.take j)) F[j].length) := by
    rw [h2, h1, List.append_assoc, List.getElem?_append_right (by omega), hl, Nat.sub_self]
    rfl
  rw [List.getElem?_eq_getElem (by rw [markF_len]; exact h)] at h3
  injection h3
end Go.Proofs.Ytemmbpmgfjodnaa
