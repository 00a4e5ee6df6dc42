/- Texts of this claim, one behind the other: part 4. -/
import Derived.Test.YtkcgdnnipohehaaGreatDoorU3FnOrbits
import Derived.Lib.TrailingZeros
import Derived.Outline
import Derived.WalkLawsBesides
import Derived.WalkSpells
import Derived.BigQuiet
import Derived.Deep.QuietTactic
import Derived.Deep.RegionHeld3
import Derived.Deep.RegionWith
import Derived.Deep.DeepCutAuto
import Derived.Deep.CutBlock
import Derived.Deep.DrawnRows
import Derived.Shelf.Spec.TrailingZeros
namespace Go.Proofs.YtkcgdnnipohehaaGreatDoor
open Go.RowKit
set_option linter.unusedVariables false
set_option maxRecDepth 100000
set_option maxHeartbeats 6400000
section
structure RowsH (w : World) (hs : List H) (F : List (List Int)) : Prop where
 len : hs.length = F.length
 at_ : ∀ k (a : k < hs.length) (b : k < F.length), hs[k].2.1 = F[k].length ∧ 0 < F[k].length ∧ Rd w hs[k].1 (vI F[k])
def away (hs : List H) (g : Nat) : Prop := ∀ h ∈ hs, ob h.1 ≠ some g
section
variable {w w' : World} {hs : List H} {F : List (List Int)}
theorem Rd.blk {A : Option Addr} {f : List Int} (h : Rd w A (vI f)) (hp : 0 < f.length) : ∃ g, ob A = some g ∧ g < w.heap.size := by
 obtain ⟨g, off, rfl, hg, _⟩ := RdI.at_ h hp
 exact ⟨g, rfl, hg⟩
theorem RowsH.nil (w : World) : RowsH w [] [] := ⟨rfl, fun k h => by simp at h⟩
theorem RowsH.below (h : RowsH w hs F) (hb : Below w.heap.size w w') : RowsH w' hs F := ⟨h.len, fun k a b => ⟨(h.at_ k a b).1, (h.at_ k a b).2.1, (h.at_ k a b).2.2.below hb⟩⟩
theorem RowsH.lt (h : RowsH w hs F) : ∀ x ∈ hs, ∃ g, ob x.1 = some g ∧ g < w.heap.size := by
 intro x hx
 obtain ⟨k, hk, rfl⟩ := List.mem_iff_getElem.1 hx
 have := h.at_ k hk (by rw [← h.len]; exact hk)
 exact this.2.2.blk this.2.1
theorem RowsH.grown {row : Option Nat} (h : RowsH w hs F) (hg : w.grownBy w' row) (hn : ∀ g, row = some g → away hs g) : RowsH w' hs F :=
 ⟨h.len, fun k a b => ⟨(h.at_ k a b).1, (h.at_ k a b).2.1, (h.at_ k a b).2.2.grown hg fun g he e => hn g e.symm _ (List.getElem_mem a) he⟩⟩
theorem RowsH.push (h : RowsH w hs F) {A : Option Addr} {n c : Nat} {f : List Int} (hr : Rd w A (vI f)) (hn : n = f.length) (hp : 0 < f.length) : RowsH w (hs ++ [(A, n, c)]) (F ++ [f]) := by
 refine ⟨by simp [h.len], fun k a b => ?_⟩
 by_cases hk : k < hs.length
 ·simp only [List.getElem_append_left hk, List.getElem_append_left (h.len ▸ hk : k < F.length)]
  exact h.at_ k hk _
 ·have e : k = hs.length := by simp at a; omega
  subst e
  simp only [List.getElem_append_right (Nat.le_refl _), List.getElem_append_right (Nat.le_of_eq h.len.symm), Nat.sub_self]
  exact ⟨by simpa [h.len] using hn, by simpa [h.len] using hp, by simpa [h.len] using hr⟩
theorem away_push {g : Nat} {h : H} (ha : away hs g) (h1 : ob h.1 ≠ some g) : away (hs ++ [h]) g := by
 intro x hx
 rcases List.mem_append.1 hx with hx | hx
 ·exact ha x hx
 ·simp only [List.mem_singleton] at hx; rw [hx]; exact h1
theorem RowsH.away_new (h : RowsH w hs F) {g : Nat} (hg : w.heap.size ≤ g) : away hs g := by
 intro x hx e
 obtain ⟨g', h1, h2⟩ := h.lt x hx
 rw [h1] at e
 injection e with e
 omega
end
structure Two (base g0 : Nat) (t1 s1 : Nat) (vs : List Value) (A : Option Addr) (n c : Nat) (B : Option Addr) (c2 : Nat) (hs : List H) (F : List (List Int)) (cells : Array Value) (w : World) : Prop where
 own1 : w.ownsRow base t1 s1 (.slice A n c) n vs
 own2 : w.ownsRow base 24 1 (.slice B n c2) n (vS hs)
 rows : RowsH w hs F
 beside : Blk w g0 3 cells
 sepA : ∀ g, ob A = some g → ob B ≠ some g ∧ away hs g ∧ g ≠ g0
 sepB : ∀ g, ob B = some g → away hs g ∧ g ≠ g0
theorem Two.below {base g0 t1 s1 : Nat} {vs : List Value} {A : Option Addr} {n c : Nat} {B : Option Addr} {c2 : Nat} {hs : List H} {F : List (List Int)} {cells : Array Value} {w w' : World}
  (h : Two base g0 t1 s1 vs A n c B c2 hs F cells w) (hb : Below w.heap.size w w') : Two base g0 t1 s1 vs A n c B c2 hs F cells w' :=
 ⟨own_keep h.own1 hb, own_keep h.own2 hb, h.rows.below hb, h.beside.below hb, h.sepA, h.sepB⟩
theorem Two.push {base g0 t1 s1 : Nat} {vs vs' : List Value} {A A' : Option Addr} {n c c' : Nat} {B B' : Option Addr} {c2 c2' : Nat} {hs : List H} {F : List (List Int)} {cells : Array Value} {w1 w2 w2' w3 : World}
  {D : Option Addr} {cf : Nat} {f : List Int} {o1 : Obj}
  (h : Two base g0 t1 s1 vs A n c B c2 hs F cells w1) (hf : Rd w1 D (vI f)) {nf : Nat} (hn : nf = f.length) (hp : 0 < f.length) (hfd : ∀ g, ob D = some g → ob A ≠ some g ∧ ob B ≠ some g)
  (ho1 : w2.ownsRow base t1 s1 (.slice A' (n + 1) c') (n + 1) vs') (hg1 : (w1.alloc o1).grownBy w2 (ob A)) (ha1 : ob A' = ob A ∨ ob A' = some (w1.alloc o1).heap.size)
  (hm : Below w2.heap.size w2 w2')
  (ho2 : w3.ownsRow base 24 1 (.slice B' (n + 1) c2') (n + 1) (vS (hs ++ [(D, nf, cf)]))) (hg2 : w2'.grownBy w3 (ob B)) (ha2 : ob B' = ob B ∨ ob B' = some w2'.heap.size) :
  Two base g0 t1 s1 vs' A' (n + 1) c' B' c2' (hs ++ [(D, nf, cf)]) (F ++ [f]) cells w3 := by
 obtain ⟨gf, hgf, hgl⟩ := hf.blk hp
 obtain ⟨hfa, hfb⟩ := hfd gf hgf
 have hz1 : (w1.alloc o1).heap.size = w1.heap.size + 1 := by simp
 have hz2 := hg1.size
 have hz3 := hm.size
 have hz4 := hg2.size
 rw [hz1] at ha1 hz2
 have hbl := h.beside.lt
 -- the blocks that were there
 have hAnew : ∀ g, ob A' = some g → ob A = some g ∨ g = w1.heap.size + 1 := fun g e => by
  rcases ha1 with h1 | h1
  ·exact .inl (h1 ▸ e)
  ·rw [h1] at e; injection e with e; exact .inr e.symm
 have hBnew : ∀ g, ob B' = some g → ob B = some g ∨ g = w2'.heap.size := fun g e => by
  rcases ha2 with h1 | h1
  ·exact .inl (h1 ▸ e)
  ·rw [h1] at e; injection e with e; exact .inr e.symm
 have hAlt := own_lt h.own1
 have hBlt := own_lt h.own2
 have r1 : RowsH w2 hs F := (h.rows.below (Below.alloc (Below.refl _ _) (Nat.le_refl _) o1)).grown hg1 fun g e => (h.sepA g e).2.1
 have f1 : Rd w2 D (vI f) := (hf.alloc o1).grown hg1 fun g he e => by rw [hgf] at he; injection he with he; subst he; exact hfa e.symm
 have k1 : Blk w2 g0 3 cells := (h.beside.alloc o1).grown hg1 fun e => (h.sepA g0 e.symm).2.2 rfl
 have r2 : RowsH w3 hs F := (r1.below hm).grown hg2 fun g e => (h.sepB g e).1
 have f2 : Rd w3 D (vI f) := (f1.below hm).grown hg2 fun g he e => by rw [hgf] at he; injection he with he; subst he; exact hfb e.symm
 have k2 : Blk w3 g0 3 cells := (k1.below hm).grown hg2 fun e => (h.sepB g0 e.symm).2 rfl
 have o1' : w3.ownsRow base t1 s1 (.slice A' (n + 1) c') (n + 1) vs' := (own_keep ho1 hm).kept hg2 (by
  rw [ownBlock_slice]
  cases hA : ob A' with
  | none => exact .inl rfl
  | some g =>
   right
   intro e
   rcases hAnew g hA with h1 | h1
   ·exact (h.sepA g h1).1 e.symm
   ·have := (hBlt g e.symm).2; omega)
 refine ⟨o1', ho2, r2.push f2 hn hp, k2, fun g hg => ?_, fun g hg => ?_⟩
 ·rcases hAnew g hg with h1 | h1
  ·obtain ⟨s1, s2, s3⟩ := h.sepA g h1
   refine ⟨fun e => ?_, away_push s2 (fun e => by rw [hgf] at e; injection e with e; subst e; exact hfa h1), s3⟩
   rcases hBnew g e with h2 | h2
   ·exact s1 h2
   ·have := (hAlt g h1).2; omega
  ·refine ⟨fun e => ?_, away_push (h.rows.away_new (by omega)) (fun e => by rw [hgf] at e; injection e with e; omega), by omega⟩
   rcases hBnew g e with h2 | h2
   ·have := (hBlt g h2).2; omega
   ·have := (own_lt ho1 g hg).2; omega
 ·rcases hBnew g hg with h1 | h1
  ·obtain ⟨s2, s3⟩ := h.sepB g h1
   exact ⟨away_push s2 (fun e => by rw [hgf] at e; injection e with e; subst e; exact hfb h1), s3⟩
  ·exact ⟨away_push (h.rows.away_new (by omega)) (fun e => by rw [hgf] at e; injection e with e; omega), by omega⟩
end

section
structure Own2 (base : Nat) (w : World) (B : Option Addr) (n c : Nat) (hs : List H) (F : List (List Int)) : Prop where
 own : w.ownsRow base 24 1 (.slice B n c) n (vS hs)
 len : hs.length = F.length
 row : ∀ k (a : k < hs.length) (b : k < F.length), w.ownsRow base 3 1 (.slice hs[k].1 hs[k].2.1 hs[k].2.2) hs[k].2.1 (vI F[k])
 off : ∀ g, ob B = some g → away hs g
 sep : ∀ i j (a : i < hs.length) (b : j < hs.length), i ≠ j → ∀ g, ob hs[i].1 = some g → ob hs[j].1 ≠ some g
def RetO2 (w : World) (F : List (List Int)) (e : Ending) (w' : World) : Prop :=
 ∃ A n c hs, e = .returned (.slice A n c) ∧ Own2 w.heap.size w' A n c hs F ∧ Below w.heap.size w w'
section
variable {base : Nat} {w w' : World} {B : Option Addr} {n c : Nat} {hs : List H} {F : List (List Int)}
theorem Own2.nil (base : Nat) (w : World) : Own2 base w none 0 0 [] [] :=
 ⟨own_nil _ _ _ _, rfl, fun k a => by simp at a, fun g h => by simp [ob] at h, fun i j a => by simp at a⟩
theorem Own2.none_ (h : w.ownsRow base 24 1 (.slice B 0 c) 0 []) : Own2 base w B 0 c [] [] :=
 ⟨h, rfl, fun k a => by simp at a, fun g _ x hx => by simp at hx, fun i j a => by simp at a⟩
theorem Own2.hlen (h : Own2 base w B n c hs F) : hs.length = n := by have := own_len h.own; rw [vS_length] at this; omega
theorem Own2.flen (h : Own2 base w B n c hs F) : F.length = n := h.len ▸ h.hlen
theorem Own2.rlen (h : Own2 base w B n c hs F) {k : Nat} (a : k < hs.length) (b : k < F.length) : F[k].length = hs[k].2.1 := by have := own_len (h.row k a b); rw [vI_length] at this; omega
theorem Own2.below (h : Own2 base w B n c hs F) (hb : Below w.heap.size w w') : Own2 base w' B n c hs F :=
 ⟨own_keep h.own hb, h.len, fun k a b => own_keep (h.row k a b) hb, h.off, h.sep⟩
theorem own_mono2 {base' e size : Nat} {A : Option Addr} {xs : List Value} (h : w.ownsRow base e size (.slice A n c) n xs) (hb : base' ≤ base) : w.ownsRow base' e size (.slice A n c) n xs := by
 refine ⟨h.1, ?_⟩
 rcases h.2 with hn | ⟨g, cap, cur, hv, hg, hgg, rest⟩
 ·exact .inl hn
 ·exact .inr ⟨g, cap, cur, hv, Nat.le_trans hb hg, hgg, rest⟩
theorem Own2.mono {base' : Nat} (h : Own2 base w B n c hs F) (hb : base' ≤ base) : Own2 base' w B n c hs F :=
 ⟨own_mono2 h.own hb, h.len, fun k a b => own_mono2 (h.row k a b) hb, h.off, h.sep⟩
theorem own_kept {e size : Nat} {A : Option Addr} {xs : List Value} {row : Option Nat} (h : w.ownsRow base e size (.slice A n c) n xs) (hg : w.grownBy w' row) (hn : ∀ g, ob A = some g → row ≠ some g) : w'.ownsRow base e size (.slice A n c) n xs :=
 h.kept hg (by
  rw [ownBlock_slice]
  cases hA : ob A with
  | none => exact .inl rfl
  | some g => right; intro e; exact hn g hA e.symm)
theorem Own2.grown {row : Option Nat} (h : Own2 base w B n c hs F) (hg : w.grownBy w' row) (hn : ∀ g, row = some g → g < base) : Own2 base w' B n c hs F :=
 ⟨own_kept h.own hg fun g e r => by have := (own_lt h.own g e).1; have := hn g r; omega, h.len,
  fun k a b => own_kept (h.row k a b) hg fun g e r => by have := (own_lt (h.row k a b) g e).1; have := hn g r; omega, h.off, h.sep⟩
theorem Own2.at_ (h : Own2 base w B n c hs F) {k : Nat} (a : k < hs.length) : ∃ g off, B = some ⟨g, off, none⟩ ∧ g < w.heap.size ∧ w.cell? ⟨g, off + k, none⟩ = some (.slice hs[k].1 hs[k].2.1 hs[k].2.2) :=
 RdS.at_ (Rd.of_own h.own) a
theorem Own2.rd (h : Own2 base w B n c hs F) {k : Nat} (a : k < hs.length) (b : k < F.length) : Rd w hs[k].1 (vI F[k]) := Rd.of_own (h.row k a b)
theorem Own2.put (h : Own2 base w B n c hs F) {k : Nat} (a : k < hs.length) (f : List Int) (hr : w'.ownsRow base 3 1 (.slice hs[k].1 hs[k].2.1 hs[k].2.2) hs[k].2.1 (vI f)) (hg : w.grownBy w' (ob hs[k].1)) :
  Own2 base w' B n c hs (F.set k f) := by
 refine ⟨own_kept h.own hg fun g e r => h.off g e _ (List.getElem_mem a) r, by simpa using h.len, fun j a' b' => ?_, h.off, h.sep⟩
 by_cases e : k = j
 ·subst e
  rw [List.getElem_set_self]
  exact hr
 ·rw [List.getElem_set_ne e]
  exact own_kept (h.row j a' (by simpa using b')) hg fun g e1 r => h.sep k j a a' e g r e1
theorem Own2.push {w3 : World} {g1 nf cf : Nat} {f : List Int} {B' : Option Addr} {c' : Nat}
  (h : Own2 base w B n c hs F) (hf : w'.ownsRow base 3 1 (.slice (some ⟨g1, 0, none⟩) nf cf) nf (vI f)) (hg1 : w.heap.size ≤ g1) (hb : Below w.heap.size w w')
  (ho : w3.ownsRow base 24 1 (.slice B' (n + 1) c') (n + 1) (vS (hs ++ [(some ⟨g1, 0, none⟩, nf, cf)]))) (hg : w'.grownBy w3 (ob B)) (ha : ob B' = ob B ∨ ob B' = some w'.heap.size) :
  Own2 base w3 B' (n + 1) c' (hs ++ [(some ⟨g1, 0, none⟩, nf, cf)]) (F ++ [f]) := by
 have hB := own_lt h.own
 have hf1 := (own_lt hf g1 rfl).2
 have hsz := hb.size
 have hold : ∀ k (a : k < hs.length) (b : k < F.length) g, ob hs[k].1 = some g → g < w.heap.size := fun k a b g e => (own_lt (h.row k a b) g e).2
 refine ⟨ho, by simp [h.len], fun k a b => ?_, fun g e => ?_, ?_⟩
 ·by_cases hk : k < hs.length
  ·have hk2 : k < F.length := h.len ▸ hk
   simp only [List.getElem_append_left hk, List.getElem_append_left hk2]
   exact own_kept (own_keep (h.row k hk hk2) hb) hg fun g e r => h.off g r _ (List.getElem_mem hk) e
  ·have e : k = hs.length := by simp at a; omega
   subst e
   have e3 : (hs ++ [((some ⟨g1, 0, none⟩, nf, cf) : H)])[hs.length]'a = (some ⟨g1, 0, none⟩, nf, cf) := by simp
   have e4 : (F ++ [f])[hs.length]'b = f := by rw [List.getElem_append_right (Nat.le_of_eq h.len.symm)]; simp
   rw [e3, e4]
   exact own_kept hf hg fun g e r => by simp only [ob, Option.map_some, Option.some.injEq] at e; subst e; have := (hB _ r).2; omega
 ·intro x hx
  rcases List.mem_append.1 hx with hx | hx
  ·rcases ha with h1 | h1
   ·exact h.off g (h1 ▸ e) x hx
   ·rw [h1] at e
    injection e with e
    intro r
    obtain ⟨k, hk, rfl⟩ := List.mem_iff_getElem.1 hx
    have := hold k hk (h.len ▸ hk) g r
    omega
  ·simp only [List.mem_singleton] at hx
   subst hx
   intro r
   simp only [ob, Option.map_some, Option.some.injEq] at r
   subst r
   rcases ha with h1 | h1
   ·rw [h1] at e
    have := (hB _ e).2
    omega
   ·rw [h1] at e
    injection e with e
    omega
 ·have hn1 : ∀ i (a : i < hs.length) g, ob hs[i].1 = some g → ob (some (⟨g1, 0, none⟩ : Addr)) ≠ some g := fun i a g e r => by
   simp only [ob, Option.map_some, Option.some.injEq] at r
   subst r
   have := hold i a (h.len ▸ a) _ e
   omega
  intro i j a b hij g e
  by_cases hi : i < hs.length
  ·by_cases hj : j < hs.length
   ·simp only [List.getElem_append_left hi] at e
    simp only [List.getElem_append_left hj]
    exact h.sep i j hi hj hij g e
   ·have ej : j = hs.length := by simp at b; omega
    subst ej
    simp only [List.getElem_append_left hi] at e
    simp only [List.getElem_append_right (Nat.le_refl _), Nat.sub_self, List.getElem_cons_zero]
    exact hn1 i hi g e
  ·have ei : i = hs.length := by simp at a; omega
   subst ei
   have hj : j < hs.length := by simp at b; omega
   simp only [List.getElem_append_right (Nat.le_refl _), Nat.sub_self, List.getElem_cons_zero] at e
   simp only [List.getElem_append_left hj]
   exact fun r => hn1 j hj g r e
end
def total (F : List (List Int)) : Nat := (F.map List.length).sum
def markF : Int → List (List Int) → List (List Int)
 | _, [] => []
 | k, f :: t => io k f.length :: markF (k + f.length) t
end

section
structure Rd2I (w : World) (A : Option Addr) (n : Nat) (hs : List H) (F : List (List Int)) : Prop where
 top : Rd w A (vS hs)
 hlen : hs.length = n
 flen : F.length = n
 row : ∀ k (a : k < hs.length) (b : k < F.length), F[k].length = hs[k].2.1 ∧ Rd w hs[k].1 (vI F[k])
theorem Rd2I.below {w w' : World} {A : Option Addr} {n : Nat} {hs : List H} {F : List (List Int)} (h : Rd2I w A n hs F) (hb : Below w.heap.size w w') : Rd2I w' A n hs F :=
 ⟨h.top.below hb, h.hlen, h.flen, fun k a b => ⟨(h.row k a b).1, (h.row k a b).2.below hb⟩⟩
theorem Rd2I.of_own {base : Nat} {w : World} {A : Option Addr} {n c : Nat} {hs : List H} {F : List (List Int)} (h : Own2 base w A n c hs F) : Rd2I w A n hs F :=
 ⟨Rd.of_own h.own, h.hlen, h.flen, fun k a b => ⟨h.rlen a b, h.rd a b⟩⟩
theorem Rd2I.at_ {w : World} {A : Option Addr} {n : Nat} {hs : List H} {F : List (List Int)} (h : Rd2I w A n hs F) {k : Nat} (hk : k < n) :
  ∃ (x : H) (f : List Int) (g off : Nat), F[k]? = some f ∧ A = some ⟨g, off, none⟩ ∧ g < w.heap.size ∧ w.cell? ⟨g, off + k, none⟩ = some (.slice x.1 x.2.1 x.2.2) ∧ f.length = x.2.1 ∧ Rd w x.1 (vI f) := by
 have a : k < hs.length := by rw [h.hlen]; exact hk
 have b : k < F.length := by rw [h.flen]; exact hk
 obtain ⟨g, off, hA, hg, hc⟩ := RdS.at_ h.top a
 obtain ⟨h1, h2⟩ := h.row k a b
 exact ⟨hs[k], F[k], g, off, List.getElem?_eq_getElem b, hA, hg, hc, h1, h2⟩
theorem Rd2I.at_m {w : World} {A : Option Addr} {n : Nat} {hs : List H} {F : List (List Int)} (h : Rd2I w A n hs F) {k : Nat} (hk : k < n) :
  ∃ (x : H) (f : List Int) (g off : Nat), x ∈ hs ∧ F[k]? = some f ∧ A = some ⟨g, off, none⟩ ∧ g < w.heap.size ∧ w.cell? ⟨g, off + k, none⟩ = some (.slice x.1 x.2.1 x.2.2) ∧ f.length = x.2.1 ∧ Rd w x.1 (vI f) := by
 have a : k < hs.length := by rw [h.hlen]; exact hk
 have b : k < F.length := by rw [h.flen]; exact hk
 obtain ⟨g, off, hA, hg, hc⟩ := RdS.at_ h.top a
 obtain ⟨h1, h2⟩ := h.row k a b
 exact ⟨hs[k], F[k], g, off, List.getElem_mem a, List.getElem?_eq_getElem b, hA, hg, hc, h1, h2⟩
theorem Rd2I.grown {w w' : World} {A : Option Addr} {n : Nat} {hs : List H} {F : List (List Int)} {row : Option Nat} (h : Rd2I w A n hs F) (hg : w.grownBy w' row) (hA : ∀ g, ob A = some g → row ≠ some g) (hr : ∀ x ∈ hs, ∀ g, ob x.1 = some g → row ≠ some g) : Rd2I w' A n hs F :=
 ⟨h.top.grown hg (fun g e r => hA g e r.symm), h.hlen, h.flen, fun k a b => ⟨(h.row k a b).1, (h.row k a b).2.grown hg (fun g e r => hr _ (List.getElem_mem a) g e r.symm)⟩⟩
theorem own2_one (w : World) : Own2 w.heap.size ((w.alloc (.cells #[] 3)).alloc (.cells #[.slice (some ⟨w.heap.size, 0, none⟩) 0 0] 24)) (some ⟨w.heap.size + 1, 0, none⟩) 1 1 [(some ⟨w.heap.size, 0, none⟩, 0, 0)] [[]] := by
 refine ⟨?_, rfl, fun k a b => ?_, fun g e x hx => ?_, fun i j a b hne => ?_⟩
 ·have h := own_new (w.alloc (.cells #[] 3)) 24 1 1 #[.slice (some ⟨w.heap.size, 0, none⟩) 0 0] rfl (by simp [maxLen]) (base := w.heap.size) (by simp)
  rw [show (w.alloc (.cells #[] 3)).heap.size = w.heap.size + 1 from by simp] at h
  exact h
 ·obtain rfl : k = 0 := by simp at a; omega
  exact (own_new w 3 1 0 #[] rfl (by simp [maxLen]) (Nat.le_refl _)).alloc _
 ·simp only [List.mem_singleton] at hx
  subst hx
  intro h2
  simp only [ob, Option.map_some, Option.some.injEq] at e h2
  omega
 ·simp at a b
  omega
end

section
def byt : List Nat → Nat
 | [] => 0
 | d :: t => 256 * byt t + d
def st1 (b : Nat) : Nat := (b / 2 &&& 85) + (b &&& 85)
def st2 (b : Nat) : Nat := (b / 4 &&& 51) + (b &&& 51)
def nb8 (b : Nat) : Nat := (List.range 8).countP fun i => b.testBit i
def pop (n : Nat) : Nat := (List.range 64).countP fun i => n.testBit i
def bytes8 (n : Nat) : List Nat := [n % 256, n / 256 % 256, n / 65536 % 256, n / 16777216 % 256, n / 4294967296 % 256, n / 1099511627776 % 256, n / 281474976710656 % 256, n / 72057594037927936]
def popS (n : Nat) : Nat :=
 let a := (n / 2 &&& 0x5555555555555555) + (n &&& 0x5555555555555555)
 let b := (a / 4 &&& 0x3333333333333333) + (a &&& 0x3333333333333333)
 let c := (b / 16 + b) &&& 0x0f0f0f0f0f0f0f0f
 let x := c + c / 256
 let y := x + x / 65536
 let z := y + y / 4294967296
 z % 128
end

section
def popN (n x : Nat) : Nat := (List.range n).countP fun i => x.testBit i
theorem popN_succ (n x : Nat) : popN (n + 1) x = x % 2 + popN n (x / 2) := by
 unfold popN
 rw [List.range_succ_eq_map, List.countP_cons, List.countP_map]
 have e : ((fun i => x.testBit i) ∘ Nat.succ) = fun i => (x / 2).testBit i := by
  funext i
  simp only [Function.comp, Nat.succ_eq_add_one, Nat.testBit_succ]
 rw [e, Nat.testBit_zero]
 rcases Nat.mod_two_eq_zero_or_one x with h | h <;> simp [h]
 omega
theorem popN_zero (n : Nat) : popN n 0 = 0 := by simp [popN]
def scatL (L : List Int) (mask : Nat) : Bool := L.all fun m => decide (pop (m.toNat &&& mask) ≤ 1)
def scatV (W : Int) (rows : List Int) (P : List (List C)) (x : Int) : Bool := (isReg W rows && pcs P) && (decide (0 ≤ x) && (x.toNat &&& maskV W rows == x.toNat) && scatL (allV W rows P) x.toNat)
end

section
def cxTo (W : Int) (rows : List Int) (y : Nat) : Nat → List C
 | 0 => []
 | x + 1 => cxTo W rows y x ++ (if hasR W rows ((x : Int), (y : Int)) then [((x : Int), (y : Int))] else [])
def cyTo (W : Int) (rows : List Int) : Nat → List C
 | 0 => []
 | y + 1 => cyTo W rows y ++ cxTo W rows y W.toNat
def cellsC (W : Int) (rows : List Int) : List C := if isReg W rows then cyTo W rows rows.length else []
def bitsL (mask : Nat) : Nat → List Nat
 | 0 => []
 | k + 1 => bitsL mask k ++ (if mask.testBit k then [k] else [])
theorem bitsL_len (mask : Nat) : ∀ k, (bitsL mask k).length = popN k mask
 | 0 => by simp [bitsL, popN]
 | k + 1 => by
  show (bitsL mask k ++ _).length = _
  rw [List.length_append, bitsL_len mask k]
  unfold popN
  rw [List.range_succ, List.countP_append, List.countP_singleton]
  cases mask.testBit k <;> simp
theorem bitsL_end {mask k : Nat} (h : mask < 2 ^ k) : ∀ j, bitsL mask (k + j) = bitsL mask k
 | 0 => rfl
 | j + 1 => by
  show bitsL mask (k + j) ++ (if mask.testBit (k + j) = true then [k + j] else []) = _
  have hb : mask.testBit (k + j) = false := Nat.testBit_lt_two_pow (Nat.lt_of_lt_of_le h (Nat.pow_le_pow_right (by decide) (by omega)))
  rw [hb, bitsL_end h j]
  simp
theorem popN_end {x k : Nat} (h : x < 2 ^ k) (j : Nat) : popN (k + j) x = popN k x := by rw [← bitsL_len, ← bitsL_len, bitsL_end h j]
theorem pop_at {x k : Nat} (h : x < 2 ^ k) (hk : k ≤ 64) : pop x = popN k x := by
 have := popN_end h (64 - k)
 rw [show k + (64 - k) = 64 by omega] at this
 exact this
theorem mkTo_bit {m : Nat} {rows : List Int} (h : ∀ k (hk : k < rows.length), ∃ q : Nat, rows[k] = (q : Int) ∧ q < 2 ^ m) : ∀ k, k ≤ rows.length → ∀ y x, x < m → (mkTo m rows k).testBit (y * m + x) = (decide (y < k) && (rows.getD y 0).toNat.testBit x)
 | 0, _, y, x, _ => by simp [mkTo]
 | k + 1, hk, y, x, hx => by
  obtain ⟨q, hq, hlt⟩ := h k (by omega)
  have e : (rows.getD k 0).toNat = q := by rw [List.getD_eq_getElem?_getD, List.getElem?_eq_getElem (by omega), Option.getD_some, hq]; rfl
  have hl := mkTo_lt h k (by omega)
  have e2 : mkTo m rows (k + 1) = 2 ^ (k * m) * q + mkTo m rows k := by
   show mkTo m rows k + (rows.getD k 0).toNat * 2 ^ (k * m) = _
   rw [e, Nat.mul_comm q, Nat.add_comm]
  rw [e2, Nat.testBit_two_pow_mul_add q hl]
  have ih := mkTo_bit h k (by omega) y x hx
  by_cases hy : y < k
  ·have h1 : (y + 1) * m ≤ k * m := Nat.mul_le_mul_right m hy
   rw [Nat.succ_mul] at h1
   rw [if_pos (by omega), ih]
   simp [hy, show y < k + 1 by omega]
  ·by_cases hyk : y = k
   ·subst hyk
    rw [if_neg (by omega), show y * m + x - y * m = x by omega, e]
    simp
   ·have h1 : (k + 1) * m ≤ y * m := Nat.mul_le_mul_right m (by omega)
    rw [Nat.succ_mul] at h1
    have h2 : q.testBit (y * m + x - k * m) = false := Nat.testBit_lt_two_pow (Nat.lt_of_lt_of_le hlt (Nat.pow_le_pow_right (by decide) (by omega)))
    rw [if_neg (by omega), h2]
    simp [show ¬ y < k + 1 by omega]
theorem hasR_bit {m : Nat} {rows : List Int} (h : ∀ k (hk : k < rows.length), ∃ q : Nat, rows[k] = (q : Int) ∧ q < 2 ^ m) {x y : Nat} (hx : x < m) (hy : y < rows.length) : hasR (m : Int) rows ((x : Int), (y : Int)) = (mkTo m rows rows.length).testBit (y * m + x) := by
 rw [mkTo_bit h rows.length (Nat.le_refl _) y x hx]
 unfold hasR
 simp only [Int.toNat_natCast, show (0 : Int) ≤ (x : Int) from by omega, show (0 : Int) ≤ (y : Int) from by omega, show (x : Int) < (m : Int) from by omega, show (y : Int) < ((rows.length : Nat) : Int) from by omega, decide_true, Bool.true_and, hy]
def areaTo (rows : List Int) : Nat → Nat
 | 0 => 0
 | k + 1 => areaTo rows k + pop (rows.getD k 0).toNat
def areaV (W : Int) (rows : List Int) : Int := if isReg W rows then ((cellsC W rows).length : Nat) else -1
def subL : List Nat → List Nat → List Nat
 | [], acc => acc
 | p :: t, acc => subL t (acc ++ acc.map (· ||| 2 ^ p))
def subTo (mask k : Nat) : List Nat := subL (bitsL mask k) [0]
def mTo (ps : List Nat) (code : Nat) : Nat → Nat
 | 0 => 0
 | j + 1 => mTo ps code j + (if code.testBit j then 2 ^ ps.getD j 0 else 0)
theorem popN_add_bit {a p : Nat} (hb : a.testBit p = false) : ∀ n, popN n (a ||| 2 ^ p) = popN n a + (if p < n then 1 else 0)
 | 0 => by simp [popN]
 | n + 1 => by
  have ih := popN_add_bit hb n
  unfold popN at ih ⊢
  rw [List.range_succ, List.countP_append, List.countP_append, ih, List.countP_singleton, List.countP_singleton, Nat.testBit_or, Nat.testBit_two_pow]
  by_cases e : p = n
  ·subst e
   simp [hb]
  ·by_cases h : p < n
   ·simp [e, h, show p < n + 1 by omega]; omega
   ·simp [e, h, show ¬ p < n + 1 by omega]
def lsStep (L : List Int) (best m : Nat) : Nat := if pop m > pop best && scatL L m then m else best
def lsTo (L : List Int) (M : List Nat) (i : Nat) : Nat := (M.take i).foldl (lsStep L) 0
def smallV (W : Int) (rows : List Int) (P : List (List C)) : Bool := (isReg W rows && pcs P) && decide (areaV W rows ≤ 12)
def lsV (W : Int) (rows : List Int) (P : List (List C)) : Nat := if smallV W rows P then lsTo (allV W rows P) (subTo (maskV W rows) 36) (subTo (maskV W rows) 36).length else 0
end

section
def inM (a b : Nat) : Bool := a &&& b == a
theorem and_sub (a b : Nat) (hb : b < 2 ^ 64) (ha : a < 2 ^ 64) : a &&& (2 ^ 64 - 1 - b) = a - (a &&& b) := by
 have h1 : (BitVec.ofNat 64 a &&& BitVec.ofNat 64 b) &&& (BitVec.ofNat 64 a &&& ~~~BitVec.ofNat 64 b) = 0#64 := by
  ext i hi
  simp only [BitVec.getElem_and, BitVec.getElem_not, BitVec.getElem_zero]
  cases (BitVec.ofNat 64 a)[i] <;> cases (BitVec.ofNat 64 b)[i] <;> rfl
 have h2 := BitVec.add_eq_or_of_and_eq_zero _ _ h1
 have h3 : (BitVec.ofNat 64 a &&& BitVec.ofNat 64 b) ||| (BitVec.ofNat 64 a &&& ~~~BitVec.ofNat 64 b) = BitVec.ofNat 64 a := by
  ext i hi
  simp only [BitVec.getElem_or, BitVec.getElem_and, BitVec.getElem_not]
  cases (BitVec.ofNat 64 a)[i] <;> cases (BitVec.ofNat 64 b)[i] <;> rfl
 rw [h3] at h2
 have h4 := congrArg BitVec.toNat h2
 have ea : (BitVec.ofNat 64 a).toNat = a := by rw [BitVec.toNat_ofNat]; exact Nat.mod_eq_of_lt ha
 have eb : (BitVec.ofNat 64 b).toNat = b := by rw [BitVec.toNat_ofNat]; exact Nat.mod_eq_of_lt hb
 rw [BitVec.toNat_add, BitVec.toNat_and, BitVec.toNat_and, BitVec.toNat_not, ea, eb] at h4
 have hl : a &&& b ≤ a := Nat.and_le_left
 have hl2 : a &&& (2 ^ 64 - 1 - b) ≤ a := Nat.and_le_left
 -- no carry: both are below 2 ^ 64, and the sum is a
 have h5 : (a &&& b) + (a &&& (2 ^ 64 - 1 - b)) < 2 ^ 64 ∨ (a &&& b) + (a &&& (2 ^ 64 - 1 - b)) = a + 2 ^ 64 := by
  by_cases hlt : (a &&& b) + (a &&& (2 ^ 64 - 1 - b)) < 2 ^ 64
  ·exact .inl hlt
  ·right; omega
 rcases h5 with h5 | h5
 ·rw [Nat.mod_eq_of_lt h5] at h4; omega
 ·omega
theorem i64_andNot (a b : Nat) (ha : a < 2 ^ 63) (hb : b < 2 ^ 63) : bits .andNot .i64 (a : Int) (b : Int) = ((a - (a &&& b) : Nat) : Int) := by
 have ea : (BitVec.ofInt 64 (a : Int)).toNat = a := by rw [BitVec.ofInt_natCast, BitVec.toNat_ofNat]; exact Nat.mod_eq_of_lt (by omega)
 have eb : (BitVec.ofInt 64 (b : Int)).toNat = b := by rw [BitVec.ofInt_natCast, BitVec.toNat_ofNat]; exact Nat.mod_eq_of_lt (by omega)
 show IntKind.i64.wrap ((BitVec.ofInt 64 (a : Int) &&& ~~~BitVec.ofInt 64 (b : Int)).toNat : Int) = _
 rw [BitVec.toNat_and, BitVec.toNat_not, ea, eb, and_sub a b (by omega) (by omega)]
 exact wraps_i64 _ (by omega) (by have : a - (a &&& b) ≤ a := Nat.sub_le _ _; omega)
theorem sub_zero_iff (a b : Nat) : (a - (a &&& b) = 0) ↔ inM a b = true := by
 have hl : a &&& b ≤ a := Nat.and_le_left
 unfold inM
 rw [beq_iff_eq]
 omega
theorem inM_lt {a b : Nat} {k : Nat} (h : inM a b = true) (hb : b < 2 ^ k) : a < 2 ^ k := by
 unfold inM at h
 rw [beq_iff_eq] at h
 rw [← h]
 exact Nat.and_lt_two_pow _ hb
end

section
def solA : List (List Int) → Nat → List (List Int)
 | [], free => if free = 0 then [[]] else []
 | p :: ps, free => p.flatMap fun m => if inM m.toNat free then (solA ps (free - m.toNat)).map (m :: ·) else []
def solG (ps : List (List Int)) (free : Nat) (m : Int) : List (List Int) := if inM m.toNat free then (solA ps (free - m.toNat)).map (m :: ·) else []
theorem flat_take {β : Type} (g : Int → List β) (p : List Int) (i : Nat) (h : i < p.length) : (p.take (i + 1)).flatMap g = (p.take i).flatMap g ++ g p[i] := by
 rw [List.take_succ_eq_append_getElem h, List.flatMap_append]
 simp
theorem flat_split {β : Type} (g : Int → List β) (p : List Int) (i : Nat) : p.flatMap g = (p.take i).flatMap g ++ (p.drop i).flatMap g := by rw [← List.flatMap_append, List.take_append_drop]
theorem full_step {β : Type} (most : Nat) (F G : List β) (h : (F.take most).length < most) : F.take most = F ∧ F ++ G.take (most - F.length) = (F ++ G).take most := by
 have hl : F.length < most := by rw [List.length_take] at h; omega
 refine ⟨List.take_of_length_le (by omega), ?_⟩
 rw [List.take_append, List.take_of_length_le (l := F) (by omega)]
theorem full_end {β : Type} (most : Nat) (F G : List β) (h : ¬ (F.take most).length < most) : (F ++ G).take most = F.take most := by
 have hl : most ≤ F.length := by rw [List.length_take] at h; omega
 rw [List.take_append_of_le_length hl]
theorem sub_bit {m free : Nat} (h : inM m free = true) (hf : free < 2 ^ 62) (b : Nat) (hb : b < 62) : (free - m).testBit b = (free.testBit b && !m.testBit b) := by
 have hm : m < 2 ^ 62 := inM_lt h hf
 have h1 := and_sub free m (by omega) (by omega)
 have h2 : free &&& m = m := by unfold inM at h; rw [beq_iff_eq] at h; rw [Nat.and_comm]; exact h
 rw [h2] at h1
 rw [← h1, Nat.testBit_and, show 2 ^ 64 - 1 - m = 2 ^ 64 - (m + 1) by omega, Nat.testBit_two_pow_sub_succ (by omega), decide_eq_true (by omega), Bool.true_and]
theorem sub_in {m m' free : Nat} (h : inM m free = true) (hf : free < 2 ^ 62) (h' : inM m' (free - m) = true) : inM m' free = true := by
 unfold inM at h' ⊢
 rw [beq_iff_eq] at h' ⊢
 have hlt : free - m < 2 ^ 62 := by omega
 apply Nat.eq_of_testBit_eq
 intro b
 rw [Nat.testBit_and]
 have e := congrArg (fun z => z.testBit b) h'
 simp only [Nat.testBit_and] at e
 by_cases hb : b < 62
 ·rw [sub_bit h hf b hb] at e
  revert e
  cases m'.testBit b <;> cases free.testBit b <;> simp
 ·have hz : (free - m).testBit b = false := Nat.testBit_lt_two_pow (Nat.lt_of_lt_of_le hlt (Nat.pow_le_pow_right (by decide) (by omega)))
  rw [hz, Bool.and_false] at e
  rw [← e, Bool.false_and]
def reachL (free : Nat) (l : List Int) : Nat := l.foldl (fun r m => if inM m.toNat free then r ||| m.toNat else r) 0
def hintP (h : Int) (p : List Int) : List Int := if 0 ≤ h then p.filter (· == h) else p
end

section
def lowN (m : Nat) : Nat := Lib.ctz 64 m
theorem lowN_bit {m : Nat} (h0 : m ≠ 0) (h : m < 2 ^ 64) : m.testBit (lowN m) = true ∧ lowN m < 64 := by
 obtain ⟨h1, h2⟩ := Lib.lowest_bit 64 m h0 h
 refine ⟨?_, h2⟩
 have h3 : (m &&& (2 ^ 64 - m)).testBit (lowN m) = true := by rw [h1]; exact Nat.testBit_two_pow_self
 rw [Nat.testBit_and] at h3
 simp only [Bool.and_eq_true] at h3
 exact h3.1
theorem lowN_below {m : Nat} (h0 : m ≠ 0) (h : m < 2 ^ 64) {j : Nat} (hj : j < lowN m) : m.testBit j = false := by
 have key : ∀ (f x : Nat), 0 < x → ∀ j, j < Lib.ctzFrom f x → x.testBit j = false := by
  intro f
  induction f with
  | zero => intro x _ j hj; simp [Lib.ctzFrom] at hj
  | succ f ih =>
   intro x hx j hj
   unfold Lib.ctzFrom at hj
   split at hj
   ·omega
   ·cases j with
    | zero => rw [Nat.testBit_zero]; simp; omega
    | succ j => rw [Nat.testBit_succ]; exact ih _ (by omega) j (by omega)
 refine key 64 m (by omega) j ?_
 have : lowN m = Lib.ctzFrom 64 m := by unfold lowN Lib.ctz; rw [if_neg h0]
 omega
end

section
def bitL (k : Nat) (L : List Int) : List Int := L.filter fun m => m.toNat.testBit k
theorem bitL_snoc (k : Nat) (L : List Int) (m : Int) : bitL k (L ++ [m]) = if m.toNat.testBit k then bitL k L ++ [m] else bitL k L := by
 unfold bitL
 rw [List.filter_append]
 cases h : m.toNat.testBit k <;> simp [h]
theorem bitL_msk {N k : Nat} {L : List Int} (h : Msk N L) : Msk N (bitL k L) := fun x hx => h x (List.mem_filter.1 hx).1
theorem bitL_len (k : Nat) (L : List Int) : (bitL k L).length ≤ L.length := List.length_filter_le _ _
def covP (L : List Int) : Nat → Nat → Option (List Int)
 | 0, free => if free = 0 then some [] else none
 | n + 1, free => if free = 0 then some [] else (bitL (lowN free) L).findSome? fun m => (covP L n (free - (free &&& m.toNat))).map (m :: ·)
theorem sub_and_bit {a b : Nat} (ha : a < 2 ^ 62) (k : Nat) : (a - (a &&& b)).testBit k = (a.testBit k && !b.testBit k) := by
 have hl : a &&& b < 2 ^ 62 := Nat.lt_of_le_of_lt Nat.and_le_left ha
 have hi : inM (a &&& b) a = true := by
  unfold inM
  rw [beq_iff_eq, Nat.and_assoc, Nat.and_comm b a, ← Nat.and_assoc, Nat.and_self]
 by_cases hk : k < 62
 ·rw [sub_bit hi ha k hk, Nat.testBit_and]
  cases a.testBit k <;> cases b.testBit k <;> rfl
 ·have h1 : a.testBit k = false := Nat.testBit_lt_two_pow (Nat.lt_of_lt_of_le ha (Nat.pow_le_pow_right (by decide) (by omega)))
  rw [h1, Nat.testBit_lt_two_pow (Nat.lt_of_lt_of_le (by omega : a - (a &&& b) < 2 ^ 62) (Nat.pow_le_pow_right (by decide) (by omega)))]
  rfl
def orL (L : List Int) (k : Nat) : Nat := (L.take k).foldl (fun r m => r ||| m.toNat) 0
def putP (p : List Int) : List Int := p.foldr (fun m acc => putI acc m) []
def fewTo (L : List Int) (M : Nat) : Nat → Option (List Int)
 | 0 => none
 | n + 1 => match fewTo L M n with
  | some p => some p
  | none => covP L n M
def fewcV (W : Int) (rows : List Int) (P : List (List C)) : Option (List Int) := if smallV W rows P then fewTo (allV W rows P) (maskV W rows) ((areaV W rows).toNat + 1) else none
end

section
def tilF (L : List Int) : Nat → Nat → List (List Int)
 | 0, free => if free = 0 then [[]] else []
 | n + 1, free => if free = 0 then [[]] else (bitL (lowN free) L).flatMap fun m => if inM m.toNat free then (tilF L n (free - m.toNat)).map (m :: ·) else []
theorem tilF_zero (L : List Int) (n : Nat) : tilF L n 0 = [[]] := by cases n <;> simp [tilF]
theorem tilF_succ (L : List Int) (n : Nat) {free : Nat} (h : free ≠ 0) : tilF L (n + 1) free = (bitL (lowN free) L).flatMap fun m => if inM m.toNat free then (tilF L n (free - m.toNat)).map (m :: ·) else [] := by
 show (if free = 0 then [[]] else _) = _
 rw [if_neg h]
theorem inM_le {m free : Nat} (h : inM m free = true) : m ≤ free := by
 unfold inM at h
 rw [beq_iff_eq] at h
 rw [← h]
 exact Nat.and_le_right
theorem bit_pos {m k : Nat} (h : m.testBit k = true) : 1 ≤ m := by
 rcases Nat.eq_zero_or_pos m with rfl | h0
 ·simp at h
 ·exact h0
theorem bitL_pos {L : List Int} {k : Nat} {m : Int} (h : m ∈ bitL k L) : 1 ≤ m.toNat := bit_pos (List.mem_filter.1 h).2
theorem tilF_fuel (L : List Int) : ∀ (n k free : Nat), free ≤ n → free ≤ k → tilF L n free = tilF L k free
 | 0, k, free, h1, h2 => by
  obtain rfl : free = 0 := by omega
  rw [tilF_zero, tilF_zero]
 | n + 1, 0, free, h1, h2 => by
  obtain rfl : free = 0 := by omega
  rw [tilF_zero, tilF_zero]
 | n + 1, k + 1, free, h1, h2 => by
  by_cases h0 : free = 0
  ·subst h0; rw [tilF_zero, tilF_zero]
  ·rw [tilF_succ L n h0, tilF_succ L k h0]
   have key : ∀ (M : List Int), (∀ m ∈ M, 1 ≤ m.toNat) → (M.flatMap fun m => if inM m.toNat free then (tilF L n (free - m.toNat)).map (m :: ·) else []) = M.flatMap fun m => if inM m.toNat free then (tilF L k (free - m.toNat)).map (m :: ·) else [] := by
    intro M
    induction M with
    | nil => intro _; rfl
    | cons m t ih =>
     intro h
     rw [List.flatMap_cons, List.flatMap_cons, ih fun x hx => h x (List.mem_cons_of_mem _ hx)]
     have h3 := h m (List.mem_cons_self ..)
     congr 1
     by_cases hi : inM m.toNat free = true
     ·have := inM_le hi
      rw [if_pos hi, if_pos hi, tilF_fuel L n k (free - m.toNat) (by omega) (by omega)]
     ·rw [if_neg hi, if_neg hi]
   exact key _ fun m hm => bitL_pos hm
def tilV (L : List Int) (free : Nat) : List (List Int) := tilF L free free
def tilG (L : List Int) (free : Nat) (m : Int) : List (List Int) := if inM m.toNat free then (tilV L (free - m.toNat)).map (m :: ·) else []
theorem tilV_zero (L : List Int) : tilV L 0 = [[]] := rfl
theorem tilV_pos (L : List Int) {free : Nat} (h : free ≠ 0) : tilV L free = (bitL (lowN free) L).flatMap (tilG L free) := by
 obtain ⟨n, rfl⟩ : ∃ n, free = n + 1 := ⟨free - 1, by omega⟩
 unfold tilV
 rw [tilF_succ L n h]
 have key : ∀ (M : List Int), (∀ m ∈ M, 1 ≤ m.toNat) → (M.flatMap fun m => if inM m.toNat (n + 1) then (tilF L n (n + 1 - m.toNat)).map (m :: ·) else []) = M.flatMap (tilG L (n + 1)) := by
  intro M
  induction M with
  | nil => intro _; rfl
  | cons m t ih =>
   intro h
   rw [List.flatMap_cons, List.flatMap_cons, ih fun x hx => h x (List.mem_cons_of_mem _ hx)]
   have h3 := h m (List.mem_cons_self ..)
   congr 1
   unfold tilG tilV
   by_cases hi : inM m.toNat (n + 1) = true
   ·have := inM_le hi
    rw [if_pos hi, if_pos hi, tilF_fuel L n (n + 1 - m.toNat) (n + 1 - m.toNat) (by omega) (Nat.le_refl _)]
   ·rw [if_neg hi, if_neg hi]
 exact key _ fun m hm => bitL_pos hm
theorem tilG_no {L : List Int} {free : Nat} {m : Int} (h : inM m.toNat free = false) : tilG L free m = [] := by
 unfold tilG
 rw [h]
 rfl
theorem tilG_yes {L : List Int} {free : Nat} {m : Int} (h : inM m.toNat free = true) : tilG L free m = (tilV L (free - m.toNat)).map (m :: ·) := by
 unfold tilG
 rw [if_pos h]
def tilH (L : List Int) (free : Nat) (m : Int) : List (List Int) := if m.toNat.testBit (lowN free) then tilG L free m else []
theorem tilH_flat (L : List Int) (free : Nat) : ∀ M : List Int, (bitL (lowN free) M).flatMap (tilG L free) = M.flatMap (tilH L free)
 | [] => rfl
 | m :: t => by
  have ih := tilH_flat L free t
  unfold bitL at ih ⊢
  rw [List.filter_cons, List.flatMap_cons]
  unfold tilH
  by_cases h : m.toNat.testBit (lowN free) = true
  ·rw [if_pos h, if_pos h, List.flatMap_cons, ih]
   rfl
  ·rw [if_neg h, if_neg h, ih]
   rfl
theorem tilV_H (L : List Int) {free : Nat} (h : free ≠ 0) : tilV L free = L.flatMap (tilH L free) := by rw [tilV_pos L h, tilH_flat]
theorem til_len_aux (L : List Int) (n : Nat) (h62 : n ≤ 62) : ∀ (k free : Nat), free < 2 ^ n → (∀ j, j < n - k → free.testBit j = false) → k ≤ n → ∀ x ∈ tilV L free, x.length ≤ k
 | 0, free, hf, hj, _, x, hx => by
  obtain rfl : free = 0 := by
   apply Nat.eq_of_testBit_eq
   intro i
   rw [Nat.zero_testBit]
   by_cases hi : i < n
   ·exact hj i (by omega)
   ·exact Nat.testBit_lt_two_pow (Nat.lt_of_lt_of_le hf (Nat.pow_le_pow_right (by decide) (by omega)))
  rw [tilV_zero, List.mem_singleton] at hx
  subst hx
  exact Nat.le_refl _
 | k + 1, free, hf, hj, hk, x, hx => by
  by_cases h0 : free = 0
  ·subst h0
   rw [tilV_zero, List.mem_singleton] at hx
   subst hx
   exact Nat.zero_le _
  ·rw [tilV_pos L h0, List.mem_flatMap] at hx
   obtain ⟨m, hm, hx⟩ := hx
   have hp62 : 2 ^ n ≤ 2 ^ 62 := Nat.pow_le_pow_right (by decide) h62
   obtain ⟨hb, hl⟩ := lowN_bit h0 (by omega : free < 2 ^ 64)
   have hmb : m.toNat.testBit (lowN free) = true := (List.mem_filter.1 hm).2
   by_cases hi : inM m.toNat free = true
   ·rw [tilG_yes hi, List.mem_map] at hx
    obtain ⟨y, hy, rfl⟩ := hx
    have hlow : n - (k + 1) ≤ lowN free := by
     rcases Nat.lt_or_ge (lowN free) (n - (k + 1)) with h | h
     ·rw [hj _ h] at hb; cases hb
     ·exact h
    have := til_len_aux L n h62 k (free - m.toNat) (by omega) (fun j hjk => by
     have h62j : j < 62 := by omega
     rw [sub_bit hi (by omega) j h62j]
     by_cases hjl : j < lowN free
     ·rw [lowN_below h0 (by omega) hjl]; rfl
     ·have : j = lowN free := by omega
      rw [this, hmb]; simp) (by omega) y hy
    simp only [List.length_cons]
    omega
   ·rw [tilG_no (by simpa using hi)] at hx
    cases hx
theorem til_len (L : List Int) {n free : Nat} (h62 : n ≤ 62) (hf : free < 2 ^ n) : ∀ x ∈ tilV L free, x.length ≤ n := til_len_aux L n h62 n free hf (fun j hj => by omega) (Nat.le_refl _)
def tilN (L : List Int) (free most : Nat) : List (List Int) := (tilV L free).take most
end

section
attribute [local go_sem ↓] Go.wp_at_zero Go.wp_at_succ
section
variable {ops : Array Oper} {o : Oper} {a : Act} {w : World} {K : Act → World → Prop} {Q : Exit → Act → World → Prop} {E : Prop}
theorem step_appS (hg : o.guard = none) (s x : Operand) (ho : o.op = .call { callee := .builtin .append, args := #[s, x], argTypes := #[38, 38] })
  (base : Nat) (A : Option Addr) (n c : Nat) (l : List H) (hs : a.eval s = .slice A n c) (hown : w.ownsRow base 24 1 (.slice A n c) n (vS l))
  (A2 : Option Addr) (m c2 : Nat) (l2 : List H) (hx : a.eval x = .slice A2 m c2) (hr : Rd w A2 (vS l2)) (hl : l2.length = m) (hb : n + m ≤ 1099511627776) (hbase : base ≤ w.heap.size)
  (h : ∀ A' c' w', w'.ownsRow base 24 1 (.slice A' (n + m) c') (n + m) (vS (l ++ l2)) → w.grownBy w' (ob A) → (ob A' = ob A ∨ ob A' = some w.heap.size) → K (a.put o.dst (.slice A' (n + m) c')) w') :
  if Region.wanted o (yielded ops a.tmps) = true then Oper.wp Tryz.prog o a w K Q else E := by
 rw [if_pos (by simp [Region.wanted, hg])]
 obtain ⟨i0, hi, hz0, hz1, hz2⟩ := info_parts infoS
 refine wp_app w s x _ ho base _ i0 _ 1 24 Tryz.underlying38 hi hz0 hz1 hz2 rfl (by omega) A n c _ hs hown A2 m c2 _ hx hr (by rw [vS_length, hl]; omega) (vS_one _) (by unfold maxLen; omega) (by omega) hbase ?_
 intro A' c' w' h1
 rw [← vS_append] at h1
 exact h A' c' w' h1
end
noncomputable def til8In : Code := ((Tryz.f84.body.map loopsIn).getD []).getD 1 .skip
theorem l8Inner {Q : Exit → Act → World → Prop} {s1 s2 s3 s4 s5 s6 s8 s12 s13 s14 s15 s16 s17 s18 s19 s20 s21 s22 s23 s24 s25 s26 s27 s28 s29 s30 s31 s32 s33 s34 s35 s36 s37 s38 s39 s40 s41 s42 s43 s44 s45 s46 s47 s48 s49 s50 s51 s52 s53 s54 s55 s56 s57 s58 s59 s60 s61 s62 s63 s64 s65 s66 s67 s68 s69 s70 s71 s72 s73 s74 s75 s76 s77 s78 s79 s80 s81 s82 s83 : Value} {y u cu q cq qa ca i base lo : Nat} {D E AL : Option Addr} {ho hE : List H} {Fi R : List (List Int)} {L : List Int} {w2 : World}
  (hA : Rd w2 AL (vI L)) (hLq : L.length = qa) (hi : i < qa) (hq5 : qa ≤ 1048576) (hLi : L[i]? = some (y : Int))
  (hO : Own2 base w2 D q cq ho Fi) (hR : Rd2I w2 E u hE R) (hRL : ∀ x ∈ R, x.length ≤ 1000) (hu : u ≤ 1000) (hq : q ≤ 1000) (hbase : base ≤ w2.heap.size)
  (hDB : ∀ g, ob D = some g → g < lo) (hEB : ∀ g, ob E = some g → lo ≤ g ∧ g < w2.heap.size) (hEX : ∀ x ∈ hE, ∀ g, ob x.1 = some g → lo ≤ g ∧ g < w2.heap.size) (hAB : ∀ g, ob AL = some g → g < base)
  (hexit : ∀ (v64 v65 v66 v67 v68 v69 v70 v71 v72 v73 v74 v75 v76 v77 v78 v79 v80 v81 v82 : Value) (D3 : Option Addr) (cq3 : Nat) (ho3 : List H) (w3 : World), Own2 base w3 D3 (q + u) cq3 ho3 (Fi ++ R.map ((y : Int) :: ·)) → Below base w2 w3 → Q (.exit 2) ⟨List.toArray ((.slice AL qa ca) :: s1 :: s2 :: s3 :: s4 :: s5 :: s6 :: (.slice D3 (q + u) cq3) :: s8 :: (.int .i64 (i : Int)) :: (.slice E u cu) :: (.int .i64 (u : Int)) :: s12 :: s13 :: s14 :: s15 :: s16 :: s17 :: s18 :: s19 :: s20 :: s21 :: s22 :: s23 :: s24 :: s25 :: s26 :: s27 :: s28 :: s29 :: s30 :: s31 :: s32 :: s33 :: s34 :: s35 :: s36 :: s37 :: s38 :: s39 :: s40 :: s41 :: s42 :: s43 :: s44 :: s45 :: s46 :: s47 :: s48 :: s49 :: s50 :: s51 :: s52 :: s53 :: s54 :: s55 :: s56 :: s57 :: s58 :: s59 :: s60 :: s61 :: s62 :: s63 :: v64 :: v65 :: v66 :: v67 :: v68 :: v69 :: v70 :: v71 :: v72 :: v73 :: v74 :: v75 :: v76 :: v77 :: v78 :: v79 :: v80 :: v81 :: v82 :: s83 :: []), []⟩ w3) :
  Code.wp Tryz.prog (Code.loop til8In) Q ⟨List.toArray ((.slice AL qa ca) :: s1 :: s2 :: s3 :: s4 :: s5 :: s6 :: (.slice D q cq) :: s8 :: (.int .i64 (i : Int)) :: (.slice E u cu) :: (.int .i64 0) :: s12 :: s13 :: s14 :: s15 :: s16 :: s17 :: s18 :: s19 :: s20 :: s21 :: s22 :: s23 :: s24 :: s25 :: s26 :: s27 :: s28 :: s29 :: s30 :: s31 :: s32 :: s33 :: s34 :: s35 :: s36 :: s37 :: s38 :: s39 :: s40 :: s41 :: s42 :: s43 :: s44 :: s45 :: s46 :: s47 :: s48 :: s49 :: s50 :: s51 :: s52 :: s53 :: s54 :: s55 :: s56 :: s57 :: s58 :: s59 :: s60 :: s61 :: s62 :: s63 :: s64 :: s65 :: s66 :: s67 :: s68 :: s69 :: s70 :: s71 :: s72 :: s73 :: s74 :: s75 :: s76 :: s77 :: s78 :: s79 :: s80 :: s81 :: s82 :: s83 :: []), []⟩ w2 := by
 have HO2 := Lib.hid hO
 have HRD := Lib.hid hR
 have HRL := Lib.hid hRL
 have HDB := Lib.hid hDB
 have HEB := Lib.hid hEB
 have HEX := Lib.hid hEX
 have HRU := Lib.hid hR.flen
 have HFI := Lib.hid hO.flen
 have HA := Lib.hid hA
 have HLQ := Lib.hid hLq
 have HLI := Lib.hid hLi
 have HAB := Lib.hid hAB
 have HX := Lib.hid @hexit
 clear hO hR hRL hDB hEB hEX hA hLq hLi hAB hexit
 conv => arg 2; arg 1; whnf
 go_loopw [11, 7] (fun e15 e11 w3 => ∃ (k3 q3 cq3 : Nat) (D3 : Option Addr) (ho3 : List H), k3 ≤ u ∧ q3 = q + k3 ∧ e15 = .int .i64 k3 ∧ e11 = .slice D3 q3 cq3 ∧ Own2 base w3 D3 q3 cq3 ho3 (Fi ++ (R.take k3).map ((y : Int) :: ·)) ∧ Rd2I w3 E u hE R ∧ Rd w3 AL (vI L) ∧ (∀ g, ob D3 = some g → g < lo ∨ w2.heap.size ≤ g) ∧ Below base w2 w3) (fun e15 _ _ => u - (intOf e15).toNat)
 case atStart => exact ⟨0, q, cq, D, ho, Nat.zero_le _, rfl, rfl, rfl, by simpa using HO2.out, HRD.out, HA.out, fun g hg => .inl (HDB.out g hg), Below.refl _ _⟩
 case round =>
  clear HRD HO2 HA
  obtain ⟨k3, q3, cq3, D3, ho3, hk3, hq3, rfl, rfl, hO3, hR3, hA3, hD3, hb3⟩ := hrel
  have HO3 := Lib.hid hO3
  have HR3 := Lib.hid hR3
  have HA3 := Lib.hid hA3
  have HD3 := Lib.hid hD3
  have HB3 := Lib.hid hb3
  have HQ3 := Lib.hid hq3
  have hq3m : q3 ≤ 1000000 := by omega
  clear hO3 hR3 hD3 hb3 hq3 hA3
  by_cases hlt3 : k3 < u
  ·have hk30 : (0 : Int) ≤ (k3 : Int) := by omega
   have hk31 : (k3 : Int) < (u : Int) := by omega
   have hi0 : (0 : Int) ≤ (i : Int) := by omega
   have hi1 : (i : Int) < (qa : Int) := by omega
   obtain ⟨x, fr, gE, oE, hfx, hEe, hgE, d2, lf, rf⟩ := HR3.out.at_ hlt3
   have hfr : R[k3]'(by rw [HRU.out]; exact hlt3) = fr := by rw [List.getElem?_eq_getElem (by rw [HRU.out]; exact hlt3)] at hfx; exact Option.some.inj hfx
   have hl1000 : fr.length ≤ 1000 := HRL.out fr (hfr ▸ List.getElem_mem _)
   have hnx3 : Fi ++ (R.take (k3 + 1)).map ((y : Int) :: ·) = (Fi ++ (R.take k3).map ((y : Int) :: ·)) ++ [(y : Int) :: fr] := by
    rw [List.take_succ_eq_append_getElem (by rw [HRU.out]; exact hlt3), hfr, List.map_append, List.append_assoc]
    rfl
   obtain ⟨hil, hLe⟩ := List.getElem?_eq_some_iff.1 HLI.out
   obtain ⟨gA, oA, hAe, hgA, d1⟩ := RdI.at_ HA3.out hil
   rw [hLe] at d1
   obtain ⟨C3, nl, cl⟩ := x
   dsimp only at d2 lf rf
   have hnl : nl ≤ 1000 := by omega
   have HLF := Lib.hid lf
   have HRF := Lib.hid rf
   have HNX3 := Lib.hid hnx3
   have HLIT : Hid ((wr.drew.alloc (.cells #[.int .i64 (y : Int)] 3)).ownsRow wr.heap.size 3 1 (.slice (some ⟨wr.heap.size, 0, none⟩) 1 1) 1 (vI [(y : Int)])) := own_new wr.drew 3 1 1 #[.int .i64 (y : Int)] rfl (by simp [maxLen]) (Nat.le_refl _)
   subst hEe
   subst hAe
   clear lf rf hnx3 hfr hfx hl1000 hil hLe
   go_wp2_with fail
   refine wp_region_noPanic ?_
   go_region_law (first
    | ((refine step_appI rfl (.tmp 75) (.tmp 79) rfl wr.heap.size (some ⟨wr.heap.size, 0, none⟩) 1 1 [(y : Int)] (by simp [Act.eval]) HLIT.out C3 nl cl fr (by simp [Act.eval]) (HRF.out.below (bel_alloc (bel_drew (Below.refl _ _)) _)) HLF.out (by omega) (by simp) ?_); intro A5 c5 w5 ho5 hg5 hat5; obtain ⟨g5, rfl, hq5⟩ := ownQ_of ho5 (by omega); have hb5 : Below wr.heap.size wr w5 := bel_app (bel_alloc (bel_drew (Below.refl _ _)) _) hg5 (fun g' e => ((own_lt HLIT.out) g' e).1); have hgg5 : wr.heap.size ≤ g5 := (own_lt ho5 g5 rfl).1; have HB5 := Lib.hid hb5; have HGG5 := Lib.hid hgg5; have HO5 := Lib.hid ho5; have e1 := keep_below hb5 d1; have e2 := keep_below hb5 d2; have l1 : gA < w5.heap.size := Nat.lt_of_lt_of_le hgA hb5.size; have l2 : gE < w5.heap.size := Nat.lt_of_lt_of_le hgE hb5.size; clear hq5 hg5 hat5 ho5 hb5 hgg5)
    | ((refine step_appS rfl (.tmp 70) (.tmp 81) rfl base D3 q3 cq3 ho3 (by simp [Act.eval]) ((HO3.out.below HB5.out).own.alloc _) (some ⟨w5.heap.size, 0, none⟩) 1 1 [(some ⟨g5, 0, none⟩, 1 + nl, c5)] (by simp [Act.eval]) (rd_newS _ _ _) rfl (by omega) (by have := HB3.out.size; have := HB5.out.size; simp; omega) ?_); intro D6 c6 w6 ho6 hg6 hat6; have HO6 := Lib.hid ho6; have HG6 := Lib.hid hg6; have HAT6 := Lib.hid hat6; clear ho6 hg6 hat6))
   all_goals
    refine NoPanic.normal ?_
    have hb56 : Below wr.heap.size wr (w5.alloc (.cells #[.slice (some ⟨g5, 0, none⟩) (1 + nl) c5] 24)) := bel_alloc HB5.out _
    have hs3 : base ≤ wr.heap.size := Nat.le_trans hbase HB3.out.size
    have hP := Own2.push HO3.out (f := (y : Int) :: fr) (own_mono2 (HO5.out.alloc _) hs3) HGG5.out hb56 HO6.out HG6.out HAT6.out
    have hD6 : ∀ g, ob D6 = some g → g < lo ∨ w2.heap.size ≤ g := fun g hg => by
     rcases HAT6.out with h1 | h1
     ·exact HD3.out g (h1 ▸ hg)
     ·rw [h1] at hg
      injection hg with hg
      have := hb56.size
      have := HB3.out.size
      omega
    have hR6 : Rd2I w6 (some ⟨gE, oE, none⟩) u hE R := (HR3.out.below hb56).grown HG6.out
     (fun g hg r => by have h1 := HEB.out g hg; have h2 := HD3.out g r; omega)
     (fun x hx g hg r => by have h1 := HEX.out x hx g hg; have h2 := HD3.out g r; omega)
    have hA6 : Rd w6 (some ⟨gA, oA, none⟩) (vI L) := (HA3.out.below hb56).grown HG6.out (fun g e r => by have h1 := HAB.out g e; have h2 := (own_lt HO3.out.own g r.symm).1; omega)
    have hb6 : Below base w2 w6 := ⟨HG6.out.os.trans (hb56.os.trans HB3.out.os), HG6.out.tape.trans (hb56.tape.trans HB3.out.tape), HG6.out.output.trans (hb56.output.trans HB3.out.output), by have := HG6.out.size; have := hb56.size; have := HB3.out.size; omega, fun k hk => by
     have e1 := HB3.out.block k hk
     have e2 := hb56.block k (by omega)
     have e3 := HG6.out.block k (by have := hb56.size; omega) (fun r => by have := (own_lt HO3.out.own k r.symm).1; omega)
     rw [e3, e2, e1]⟩
    have HP := Lib.hid hP
    have HD6 := Lib.hid hD6
    have HR6 := Lib.hid hR6
    have HA6 := Lib.hid hA6
    have HB6 := Lib.hid hb6
    clear hP hD6 hR6 hA6 hb6 hb56
    go_wp2_with fail
    exact ⟨⟨k3 + 1, q3 + 1, c6, D6, _, by omega, by have := HQ3.out; omega, by go_num, rfl, by rw [HNX3.out]; exact HP.out, HR6.out, HA6.out, HD6.out, HB6.out⟩, by simp [intOf]; omega⟩
  ·obtain rfl : k3 = u := by omega
   have hk31 : ¬ (k3 : Int) < (k3 : Int) := by omega
   have hfin3 : Own2 base wr D3 (q + k3) cq3 ho3 (Fi ++ R.map ((y : Int) :: ·)) := by
    rw [← HQ3.out]
    have := HO3.out
    rwa [List.take_of_length_le (by rw [HRU.out]; exact Nat.le_refl _)] at this
   have HF3 := Lib.hid hfin3
   have HQ4 : Hid (q + k3 = q3) := HQ3.out.symm
   clear hfin3
   rw [HQ4.out] at HX
   go_wp2_with fail
   exact HX.out _ _ _ _ _ _ _ _ _ _ _ _ _ _ _ _ _ _ _ _ _ _ _ (HQ4.out ▸ HF3.out) HB3.out
end

section
attribute [local go_sem ↓] Go.wp_at_zero Go.wp_at_succ
theorem bit_testC (m k : Nat) (hm : m < 2 ^ 62) : (bits .and .i64 ((m : Int) / 2 ^ k) 1 == 0) = !m.testBit k := by
 rw [show ((m : Int) / 2 ^ k) = ((m / 2 ^ k : Nat) : Int) by simp]
 have h := i64_and (m / 2 ^ k) 1 (by have := Nat.div_le_self m (2 ^ k); omega) (by decide)
 have h1 : ((1 : Nat) : Int) = 1 := rfl
 rw [h1] at h
 rw [h, Nat.and_one_is_mod, Nat.testBit_eq_decide_div_mod_eq]
 rcases Nat.mod_two_eq_zero_or_one (m / 2 ^ k) with h2 | h2 <;> simp [h2]
theorem l8Low_s (m : Nat) (w : World) (h0 : m ≠ 0) (hm : m < 2 ^ 62) : Calls Tryz.prog 124 #[.int .i64 (m : Int)] w (Ret w (.int .i64 (lowN m : Nat))) := by
 have hpos : (m : Int) > 0 := by omega
 obtain ⟨hlb, hl64⟩ := lowN_bit h0 (by omega)
 have hbel : ∀ j, j < lowN m → m.testBit j = false := fun j hj => lowN_below h0 (by omega) hj
 obtain ⟨q, hq⟩ : ∃ q, lowN m = q := ⟨_, rfl⟩
 rw [hq] at hlb hl64 hbel ⊢
 have HLB := Lib.hid hlb
 have HBEL := Lib.hid hbel
 have HM := Lib.hid hm
 clear hlb hbel hq hm h0
 go_enter Tryz.func124, Tryz.ntmps124
 go_wp2_with fail
 go_loopw [3] (fun e3 wr => ∃ i : Nat, i ≤ q ∧ e3 = .int .i64 i ∧ Below w.heap.size w wr) (fun e3 _ => q - (intOf e3).toNat)
 case atStart => exact ⟨0, Nat.zero_le _, rfl, Below.refl _ _⟩
 case round =>
  obtain ⟨i, hi, rfl, hb⟩ := hrel
  have hi0 : (0 : Int) ≤ (i : Int) := by omega
  have hi64 : (i : Int) ≤ 64 := by omega
  have ei : IntKind.i64.wrap (i : Int) = (i : Int) := Go.IntWalk.i64_in _ (by omega)
  have hbit := bit_testC m i HM.out
  obtain ⟨d, hd⟩ : ∃ d, m / 2 ^ i = d := ⟨_, rfl⟩
  have hdI : (m : Int) / 2 ^ i = (d : Int) := by rw [← hd]; simp
  rw [hdI] at hbit
  clear hd
  by_cases hlt : i < q
  ·rw [HBEL.out i hlt] at hbit
   go_wp2_with fail
   exact ⟨⟨i + 1, by omega, by go_num, hb⟩, by simp [intOf]; omega⟩
  ·obtain rfl : i = q := by omega
   rw [HLB.out] at hbit
   go_wp2_with fail
   go_ret
   exact ⟨rfl, hb⟩
end

section
attribute [local go_sem ↓] Go.wp_at_zero Go.wp_at_succ
noncomputable def til8Out : Code := ((Tryz.f84.body.map loopsIn).getD []).getD 0 .skip
theorem tilH_no {L : List Int} {free : Nat} {m : Int} (h : m.toNat.testBit (lowN free) = false ∨ inM m.toNat free = false) : tilH L free m = [] := by
 unfold tilH
 split
 ·next h1 =>
  rcases h with h | h
  ·rw [h] at h1; cases h1
  ·exact tilG_no h
 ·rfl
theorem tilH_yes {L : List Int} {free : Nat} {m : Int} (h1 : m.toNat.testBit (lowN free) = true) (h2 : inM m.toNat free = true) : tilH L free m = (tilV L (free - m.toNat)).map (m :: ·) := by
 unfold tilH
 rw [if_pos h1, tilG_yes h2]
theorem l8Loop {Q : Exit → Act → World → Prop} {s3 s4 s5 s6 s10 s11 s12 s13 s14 s15 s16 s17 s18 s19 s20 s21 s22 s23 s24 s25 s26 s27 s28 s29 s30 s31 s32 s33 s34 s35 s36 s37 s38 s39 s40 s41 s42 s43 s44 s45 s46 s47 s48 s49 s50 s51 s52 s53 s54 s55 s56 s57 s58 s59 s60 s61 s62 s63 s64 s65 s66 s67 s68 s69 s70 s71 s72 s73 s74 s75 s76 s77 s78 s79 s80 s81 s82 s83 : Value} {L : List Int} {A D0 : Option Addr} {qa ca free most low c0 : Nat} {w w0 : World}
  (IH : ∀ (free2 most2 : Nat) (w : World), free2 < free → Rd w A (vI L) → free2 < 2 ^ 36 → 1 ≤ most2 → most2 ≤ 1000 → Calls Tryz.prog 84 #[.slice A qa ca, .int .i64 (free2 : Int), .int .i64 (most2 : Int)] w (RetO2 w ((tilV L free2).take most2)))
  (hlow : lowN free = low) (hlow36 : low < 36) (hA : Rd w A (vI L)) (hLq : L.length = qa) (hq5 : qa ≤ 1048576) (hM : Msk 36 L) (hAB : ∀ g, ob A = some g → g < w.heap.size)
  (hfr : free < 2 ^ 36) (hm1 : 1 ≤ most) (hm3 : most ≤ 1000) (hI : Own2 w.heap.size w0 D0 0 c0 [] []) (hb0 : Below w.heap.size w w0)
  (hexit : ∀ (v10 v11 v19 v20 v21 v22 v23 v24 v25 v26 v27 v28 v29 v30 v31 v32 v33 v34 v35 v36 v37 v38 v39 v40 v41 v42 v43 v44 v45 v46 v47 v48 v49 v50 v51 v52 v53 v54 v55 v56 v57 v58 v59 v60 v61 v62 v63 v64 v65 v66 v67 v68 v69 v70 v71 v72 v73 v74 v75 v76 v77 v78 v79 v80 v81 v82 : Value) (i q cq : Nat) (D : Option Addr) (ho : List H) (w3 : World), Own2 w.heap.size w3 D q cq ho ((L.flatMap (tilH L free)).take most) → Below w.heap.size w w3 → Q (.exit 0) ⟨List.toArray ((.slice A qa ca) :: (.int .i64 (free : Int)) :: (.int .i64 (most : Int)) :: s3 :: s4 :: s5 :: s6 :: (.slice D q cq) :: (.int .i64 (low : Int)) :: (.int .i64 (i : Int)) :: v10 :: v11 :: s12 :: s13 :: s14 :: s15 :: s16 :: s17 :: s18 :: v19 :: v20 :: v21 :: v22 :: v23 :: v24 :: v25 :: v26 :: v27 :: v28 :: v29 :: v30 :: v31 :: v32 :: v33 :: v34 :: v35 :: v36 :: v37 :: v38 :: v39 :: v40 :: v41 :: v42 :: v43 :: v44 :: v45 :: v46 :: v47 :: v48 :: v49 :: v50 :: v51 :: v52 :: v53 :: v54 :: v55 :: v56 :: v57 :: v58 :: v59 :: v60 :: v61 :: v62 :: v63 :: v64 :: v65 :: v66 :: v67 :: v68 :: v69 :: v70 :: v71 :: v72 :: v73 :: v74 :: v75 :: v76 :: v77 :: v78 :: v79 :: v80 :: v81 :: v82 :: s83 :: []), []⟩ w3) :
  Code.wp Tryz.prog (Code.loop til8Out) Q ⟨List.toArray ((.slice A qa ca) :: (.int .i64 (free : Int)) :: (.int .i64 (most : Int)) :: s3 :: s4 :: s5 :: s6 :: (.slice D0 0 c0) :: (.int .i64 (low : Int)) :: (.int .i64 0) :: s10 :: s11 :: s12 :: s13 :: s14 :: s15 :: s16 :: s17 :: s18 :: s19 :: s20 :: s21 :: s22 :: s23 :: s24 :: s25 :: s26 :: s27 :: s28 :: s29 :: s30 :: s31 :: s32 :: s33 :: s34 :: s35 :: s36 :: s37 :: s38 :: s39 :: s40 :: s41 :: s42 :: s43 :: s44 :: s45 :: s46 :: s47 :: s48 :: s49 :: s50 :: s51 :: s52 :: s53 :: s54 :: s55 :: s56 :: s57 :: s58 :: s59 :: s60 :: s61 :: s62 :: s63 :: s64 :: s65 :: s66 :: s67 :: s68 :: s69 :: s70 :: s71 :: s72 :: s73 :: s74 :: s75 :: s76 :: s77 :: s78 :: s79 :: s80 :: s81 :: s82 :: s83 :: []), []⟩ w0 := by
 have HIH := Lib.hid @IH
 have HLOW := Lib.hid hlow
 have HA := Lib.hid hA
 have HLQ := Lib.hid hLq
 have HM := Lib.hid hM
 have HI0 := Lib.hid hI
 have HFR := Lib.hid hfr
 have HAB := Lib.hid hAB
 have HX := Lib.hid @hexit
 have hlo0 : (0 : Int) ≤ (low : Int) := by omega
 have hlo64 : (low : Int) ≤ 64 := by omega
 have elo : IntKind.i64.wrap (low : Int) = (low : Int) := Go.IntWalk.i64_in _ (by omega)
 clear IH hlow hA hLq hM hI hfr hAB hexit
 conv => arg 2; arg 1; whnf
 go_loopw [9, 7] (fun e12 e11 wr => ∃ (i q cq : Nat) (D : Option Addr) (ho : List H), i ≤ qa ∧ e12 = .int .i64 i ∧ e11 = .slice D q cq ∧ Own2 w.heap.size wr D q cq ho (((L.take i).flatMap (tilH L free)).take most) ∧ Below w.heap.size w wr) (fun e12 _ _ => qa - (intOf e12).toNat)
 case atStart => exact ⟨0, 0, c0, D0, [], Nat.zero_le _, rfl, rfl, by simpa using HI0.out, hb0⟩
 case round =>
  clear HI0
  obtain ⟨i, q, cq, D, ho, hi, rfl, rfl, hO, hb⟩ := hrel
  have hqm : q ≤ most := by have := hO.flen; rw [List.length_take] at this; omega
  have HO := Lib.hid hO
  clear hO
  by_cases hlt : i < qa
  ·have hi0 : (0 : Int) ≤ (i : Int) := by omega
   have hi1 : (i : Int) < (qa : Int) := by omega
   by_cases hqlt : q < most
   ·have hq1 : (q : Int) < (most : Int) := by omega
    have hkl : i < L.length := by rw [HLQ.out]; exact hlt
    obtain ⟨g1, off1, hC1, hg1, d1⟩ := RdI.at_ (HA.out.below hb) hkl
    obtain ⟨y, hy, hy36⟩ := HM.out _ (List.getElem_mem hkl)
    rw [hy] at d1
    have HLI : Hid (L[i]? = some (y : Int)) := by show _ = _; rw [List.getElem?_eq_getElem hkl, hy]
    obtain ⟨Fi, hFi⟩ : ∃ Fi, (L.take i).flatMap (tilH L free) = Fi := ⟨_, rfl⟩
    have hst := flat_take (tilH L free) L i hkl
    rw [hFi, hy] at hst
    have hfl := HO.out.flen
    rw [hFi] at HO hfl
    have hfs := full_step most Fi (tilH L free (y : Int)) (by rw [hfl]; exact hqlt)
    have hFt : Fi.take most = Fi := hfs.1
    have hFn := hfs.2
    rw [hFt] at HO hfl
    rw [hfl, ← hst] at hFn
    have HFN := Lib.hid hFn
    have hNO : tilH L free (y : Int) = [] → Hid ((((L.take (i + 1)).flatMap (tilH L free)).take most) = Fi) := fun e => by show _ = _; rw [← HFN.out, e]; simp
    have HNO := Lib.hid hNO
    have hbit := bit_testC y low (by omega)
    obtain ⟨d, hd⟩ : ∃ d, y / 2 ^ low = d := ⟨_, rfl⟩
    have hdI : (y : Int) / 2 ^ low = (d : Int) := by rw [← hd]; simp
    rw [hdI] at hbit
    clear hst hfl hfs hFt hFn hFi hNO hy hd
    cases hbt : y.testBit low with
    | false =>
     rw [hbt] at hbit
     have HN := HNO.out (tilH_no (.inl (by rw [Int.toNat_natCast, HLOW.out]; exact hbt)))
     have HC1 := Lib.hid hC1
     subst hC1
     clear hbt HNO
     go_wp2_with fail
     (refine wp_region_below (by kernel_rfl) (by kernel_rfl) ?_; (repeat (first | go_big_quiet_skip | (refine quietV (v := ?_) (by rfl) rfl (fun w' hbw => ?_) ?_; rotate_left; ((try dsimp only at hbw); have hbc := (bcell hbw).1; have hbf := (bcell hbw).2; go_simp; first | done | with_reducible rfl | fail); simp only [sq1, sq2, sq3]))); refine wpQuiet_nil ?_; intro wz hbz)
     go_wp2_with fail
     exact ⟨⟨i + 1, q, cq, D, ho, by omega, by go_num, rfl, by rw [HN.out]; exact HO.out.below hbz, bel_trans hb hbz⟩, by simp [intOf]; omega⟩
    | true =>
     rw [hbt] at hbit
     have HBT := Lib.hid hbt
     obtain ⟨z, hz⟩ : ∃ z, y &&& free = z := ⟨_, rfl⟩
     have hand : bits .and .i64 (y : Int) (free : Int) = (z : Int) := by rw [i64_and y free (by omega) (by have := HFR.out; omega), hz]
     subst hC1
     clear hbt
     cases hin : inM y free with
     | false =>
      have hzy : z ≠ y := fun e => by unfold inM at hin; rw [hz, e] at hin; simp at hin
      have hne : ((z : Int) != (y : Int)) = true := by simp; omega
      have HN := HNO.out (tilH_no (.inr (by rw [Int.toNat_natCast]; exact hin)))
      clear hin hzy hz HNO
      go_wp2_with fail
      (refine wp_region_below (by kernel_rfl) (by kernel_rfl) ?_; (repeat (first | go_big_quiet_skip | (refine quietV (v := ?_) (by rfl) rfl (fun w' hbw => ?_) ?_; rotate_left; ((try dsimp only at hbw); have hbc := (bcell hbw).1; have hbf := (bcell hbw).2; go_simp; first | done | with_reducible rfl | fail); simp only [sq1, sq2, sq3]))); refine wpQuiet_nil ?_; intro wz hbz)
      go_wp2_with fail
      exact ⟨⟨i + 1, q, cq, D, ho, by omega, by go_num, rfl, by rw [HN.out]; exact HO.out.below hbz, bel_trans hb hbz⟩, by simp [intOf]; omega⟩
     | true =>
      have hzy : z = y := by unfold inM at hin; rw [beq_iff_eq, hz] at hin; exact hin
      have hne : ((z : Int) != (y : Int)) = false := by simp [hzy]
      have hy1 : 1 ≤ y := bit_pos HBT.out
      have hyf : y ≤ free := inM_le hin
      obtain ⟨f2, hf2⟩ : ∃ f2, free - y = f2 := ⟨_, rfl⟩
      have hfI : (free : Int) - (y : Int) = (f2 : Int) := by omega
      have ef : IntKind.i64.wrap (f2 : Int) = (f2 : Int) := Go.IntWalk.i64_in _ (by have := HFR.out; omega)
      obtain ⟨mo2, hmo⟩ : ∃ mo2, most - q = mo2 := ⟨_, rfl⟩
      have hmI : (most : Int) - (q : Int) = (mo2 : Int) := by omega
      have em : IntKind.i64.wrap (mo2 : Int) = (mo2 : Int) := Go.IntWalk.i64_in _ (by omega)
      have hG : tilH L free (y : Int) = (tilV L f2).map ((y : Int) :: ·) := by rw [tilH_yes (by rw [Int.toNat_natCast, HLOW.out]; exact HBT.out) (by rw [Int.toNat_natCast]; exact hin), Int.toNat_natCast, hf2]
      obtain ⟨R, hR⟩ : ∃ R, (tilV L f2).take mo2 = R := ⟨_, rfl⟩
      have hnx : ((L.take (i + 1)).flatMap (tilH L free)).take most = Fi ++ R.map ((y : Int) :: ·) := by rw [← HFN.out, hG, hmo, ← List.map_take, hR]
      have HNX := Lib.hid hnx
      have HRE := Lib.hid hR
      have hf36 : f2 < 2 ^ 36 := by have := HFR.out; omega
      have hff : f2 < free := by omega
      have hmo1 : 1 ≤ mo2 := by omega
      have hmo3 : mo2 ≤ 1000 := by omega
      clear hin hzy hz hG hnx hR hf2 hmo hyf HFN HNO
      go_wp2_with fail
      (refine wp_region_below (by kernel_rfl) (by kernel_rfl) ?_; (repeat (first | go_big_quiet_skip | (refine quietV (v := ?_) (by rfl) rfl (fun w' hbw => ?_) ?_; rotate_left; ((try dsimp only at hbw); have hbc := (bcell hbw).1; have hbf := (bcell hbw).2; go_simp; first | done | with_reducible rfl | fail); simp only [sq1, sq2, sq3]))); refine wpQuiet_nil ?_; intro wz hbz)
      have hbw := bel_trans hb hbz
      have d1z := keep_below hbz d1
      have l1z : g1 < wz.heap.size := Nat.lt_of_lt_of_le hg1 hbz.size
      have HOz := Lib.hid (HO.out.below hbz)
      have HBW := Lib.hid hbw
      clear hb hbz hbw d1 HO
      go_wp2_with fail
      refine (HIH.out f2 mo2 _ hff (HA.out.below HBW.out) hf36 hmo1 hmo3).mono ?_
      rw [HRE.out]
      rintro e w2 ⟨E, u, cu, hE, rfl, hOE, hb2⟩
      have HRL : Hid (∀ x ∈ R, x.length ≤ 1000) := fun x hx => by
       rw [← HRE.out] at hx
       have := til_len L (n := 36) (by omega) hf36 x (List.mem_of_mem_take hx)
       omega
      have hru := hOE.flen
      have HRU := Lib.hid hru
      have HRD := Lib.hid (Rd2I.of_own hOE)
      have HEB : Hid (∀ g, ob E = some g → wz.heap.size ≤ g ∧ g < w2.heap.size) := own_lt hOE.own
      have HEX : Hid (∀ x ∈ hE, ∀ g, ob x.1 = some g → wz.heap.size ≤ g ∧ g < w2.heap.size) := fun x hx g hg => by
       obtain ⟨k4, hk4, rfl⟩ := List.mem_iff_getElem.1 hx
       exact own_lt (hOE.row k4 hk4 (hOE.len ▸ hk4)) g hg
      have HO2 := Lib.hid (HOz.out.below hb2)
      have HDB : Hid (∀ g, ob D = some g → g < wz.heap.size) := fun g hg => (own_lt HOz.out.own g hg).2
      have HBB := Lib.hid (bel_trans HBW.out hb2)
      have HA2 := Lib.hid ((HA.out.below HBW.out).below hb2)
      have hu3 : u ≤ 1000 := by have := hru; rw [← HRE.out, List.length_take] at this; omega
      have HFI := Lib.hid HOz.out.flen
      have hq10 : q ≤ 1000 := by omega
      clear hOE hru hb2 d1z l1z HOz
      go_wp2_with fail
      refine l8Inner HA2.out HLQ.out hlt hq5 HLI.out HO2.out HRD.out HRL.out hu3 hq10 HBB.out.size HDB.out HEB.out HEX.out HAB.out ?_
      intro _ _ _ _ _ _ _ _ _ _ _ _ _ _ _ _ _ _ _ D3 cq3 ho3 w3 hO3 hB3
      have hfin3 : Own2 w.heap.size w3 D3 (q + u) cq3 ho3 (((L.take (i + 1)).flatMap (tilH L free)).take most) := by rw [HNX.out]; exact hO3
      have HF3 := Lib.hid hfin3
      have HB3 := Lib.hid hB3
      clear hfin3 hO3 hB3
      go_wp2_with fail
      exact ⟨⟨i + 1, q + u, cq3, D3, ho3, by omega, by go_num, rfl, HF3.out, HBB.out.trans HB3.out⟩, by simp [intOf]; omega⟩
   ·have hq1 : ¬ (q : Int) < (most : Int) := by omega
    have hfin : (L.flatMap (tilH L free)).take most = ((L.take i).flatMap (tilH L free)).take most := by
     rw [flat_split (tilH L free) L i]
     exact full_end most _ _ (by rw [HO.out.flen]; exact hqlt)
    have HF := Lib.hid hfin
    clear hfin
    go_wp2_with fail
    exact HX.out _ _ _ _ _ _ _ _ _ _ _ _ _ _ _ _ _ _ _ _ _ _ _ _ _ _ _ _ _ _ _ _ _ _ _ _ _ _ _ _ _ _ _ _ _ _ _ _ _ _ _ _ _ _ _ _ _ _ _ _ _ _ _ _ _ _ _ _ _ _ _ _ (by rw [HF.out]; exact HO.out) hb
  ·obtain rfl : i = qa := by omega
   have hi1 : ¬ (i : Int) < (i : Int) := by omega
   have hfin : (L.flatMap (tilH L free)).take most = ((L.take i).flatMap (tilH L free)).take most := by rw [List.take_of_length_le (l := L) (by rw [HLQ.out]; omega)]
   have HF := Lib.hid hfin
   clear hfin
   go_wp2_with fail
   exact HX.out _ _ _ _ _ _ _ _ _ _ _ _ _ _ _ _ _ _ _ _ _ _ _ _ _ _ _ _ _ _ _ _ _ _ _ _ _ _ _ _ _ _ _ _ _ _ _ _ _ _ _ _ _ _ _ _ _ _ _ _ _ _ _ _ _ _ _ _ _ _ _ _ (by rw [HF.out]; exact HO.out) hb
theorem l8Search_s (L : List Int) (A : Option Addr) (qa ca : Nat) (hLq : L.length = qa) (hq5 : qa ≤ 1048576) (hM : Msk 36 L) : ∀ (free most : Nat) (w : World), Rd w A (vI L) → free < 2 ^ 36 → 1 ≤ most → most ≤ 1000 →
  Calls Tryz.prog 84 #[.slice A qa ca, .int .i64 (free : Int), .int .i64 (most : Int)] w (RetO2 w ((tilV L free).take most))
 | free, most, w, hr, hfr, hm1, hm3 => by
  by_cases h0 : free = 0
  ·have hf0 : ((free : Int) == 0) = true := by simp [h0]
   have HV2 : Hid ((tilV L free).take most = [[]]) := by show _ = _; rw [h0, tilV_zero, List.take_of_length_le (by simpa using hm1)]
   clear h0 hr hLq hM
   go_enter Tryz.func84, Tryz.ntmps84
   go_wp2_with fail
   go_ret
   exact ⟨_, _, _, _, rfl, by rw [HV2.out]; exact own2_one w, bel_alloc (bel_alloc (Below.refl _ _) _) _⟩
  ·have hf0 : ((free : Int) == 0) = false := by simp [h0]
   have IH : ∀ (free2 most2 : Nat) (w : World), free2 < free → Rd w A (vI L) → free2 < 2 ^ 36 → 1 ≤ most2 → most2 ≤ 1000 → Calls Tryz.prog 84 #[.slice A qa ca, .int .i64 (free2 : Int), .int .i64 (most2 : Int)] w (RetO2 w ((tilV L free2).take most2)) :=
    fun free2 most2 w hlt h1 h2 h3 h4 => l8Search_s L A qa ca hLq hq5 hM free2 most2 w h1 h2 h3 h4
   obtain ⟨hlb, hl64⟩ := lowN_bit h0 (by omega)
   have hlowc := fun u => l8Low_s free u h0 (by omega)
   have hS := tilV_H L h0
   obtain ⟨low, hlo⟩ : ∃ low, lowN free = low := ⟨_, rfl⟩
   rw [hlo] at hlowc hl64 hlb
   have hlow36 : low < 36 := by
    rcases Nat.lt_or_ge low 36 with h | h
    ·exact h
    ·rw [Nat.testBit_lt_two_pow (Nat.lt_of_lt_of_le hfr (Nat.pow_le_pow_right (by decide) h))] at hlb
     cases hlb
   have hAB : ∀ g, ob A = some g → 0 < L.length → g < w.heap.size := fun g e hp => by
    obtain ⟨g1, o1, hA1, hg1, _⟩ := RdI.at_ hr hp
    subst hA1
    simp only [ob, Option.map_some, Option.some.injEq] at e
    omega
   have HAB := Lib.hid hAB
   have HLOWC := Lib.hid @hlowc
   have HLO := Lib.hid hlo
   have HS := Lib.hid hS
   have HIH := Lib.hid @IH
   have HR := Lib.hid hr
   have HLQ := Lib.hid hLq
   have HM := Lib.hid hM
   have HFR := Lib.hid hfr
   have HI0 : Hid (Own2 w.heap.size (w.alloc (.cells #[] 24)) (some ⟨w.heap.size, 0, none⟩) 0 0 [] []) := Own2.none_ (own_new w 24 1 0 #[] rfl (by simp [maxLen]) (Nat.le_refl _))
   clear h0 IH hlb hl64 hlowc hS hlo hAB hr hLq hM hfr
   go_enter Tryz.func84, Tryz.ntmps84
   go_wp2_with fail
   refine (HLOWC.out _).mono ?_
   rintro e w1 ⟨rfl, hb1⟩
   have HI1 := Lib.hid (HI0.out.below hb1)
   have HB1 := Lib.hid (bel_trans (bel_alloc (Below.refl w.heap.size w) (.cells #[] 24)) hb1)
   clear hb1 HI0
   go_wp2_with fail
   by_cases hp : 0 < L.length
   ·refine l8Loop HIH.out HLO.out hlow36 HR.out HLQ.out hq5 HM.out (fun g e => HAB.out g e hp) HFR.out hm1 hm3 HI1.out HB1.out ?_
    intro _ _ _ _ _ _ _ _ _ _ _ _ _ _ _ _ _ _ _ _ _ _ _ _ _ _ _ _ _ _ _ _ _ _ _ _ _ _ _ _ _ _ _ _ _ _ _ _ _ _ _ _ _ _ _ _ _ _ _ _ _ _ _ _ _ _ i q cq D ho w3 hO3 hB3
    rw [← HS.out] at hO3
    have HO3 := Lib.hid hO3
    have HB3 := Lib.hid hB3
    clear hO3 hB3
    go_wp2_with fail
    go_ret
    exact ⟨_, _, _, _, rfl, HO3.out, HB3.out⟩
   ·have hL0 : L = [] := List.eq_nil_of_length_eq_zero (by omega)
    have hqa0 : qa = 0 := by rw [← HLQ.out]; omega
    have hV0 : (tilV L free).take most = [] := by rw [HS.out, hL0]; simp
    have HV0 := Lib.hid hV0
    have hq1 : ¬ (0 : Int) < (qa : Int) := by omega
    clear hL0 hV0 hqa0
    go_loopw [9, 7] (fun e9 e7 wr => e9 = .int .i64 0 ∧ e7 = .slice (some ⟨w.heap.size, 0, none⟩) 0 0 ∧ wr = w1) (fun _ _ _ => 0)
    case atStart => exact ⟨rfl, rfl, rfl⟩
    case round =>
     obtain ⟨rfl, rfl, rfl⟩ := hrel
     go_wp2_with fail
     go_ret
     exact ⟨_, _, _, [], rfl, by rw [HV0.out]; exact HI1.out, HB1.out⟩
termination_by free => free
decreasing_by omega
end

section
attribute [local go_sem ↓] Go.wp_at_zero Go.wp_at_succ
theorem rot_step (j : Nat) (q : Q4) {a b x y : Int} (h : rot j q = (a, b, x, y)) : rot (j + 1) q = (b, a, b - 1 - y, x) := by
 show quarter (rot j q) = _
 rw [h]; rfl
theorem carry_small {w h x y : Int} (hq : okQ (w, h, x, y)) (m : Nat) : okQ (carry w h x y m) := okQ_rot (okQ_start m hq) _
theorem carryPlace_i (a b x y : Int) (m : Nat) (w : World) (hq : okQ (a, b, x, y)) (hm : m < 8) :
  Calls Tryz.prog 118 #[.int .i64 a, .int .i64 b, .agg #[.int .i64 x, .int .i64 y], .int .i64 (m : Int)] w (Ret w (.agg #[.int .i64 (carry a b x y m).2.2.1, .int .i64 (carry a b x y m).2.2.2])) := by
 obtain ⟨r, hr⟩ : ∃ r, m % 4 = r := ⟨_, rfl⟩
 have hr4 : r < 4 := by omega
 have hmr : (m : Int) % 4 = (r : Int) := by omega
 have hm0 : (0 : Int) ≤ (m : Int) := by omega
 have hm7 : (m : Int) ≤ 7 := by omega
 obtain ⟨h1, h2, h3, h4, h5, h6, h7, h8⟩ := id hq
 simp only at h1 h2 h3 h4 h5 h6 h7 h8
 have hok := okQ_start m hq
 have HC : Hid (carry a b x y m = rot r (startQ a b x y m)) := by show carry a b x y m = _; unfold carry; rw [hr]
 obtain ⟨x1, hx1⟩ : ∃ x1, (if 4 ≤ m then a - 1 - x else x) = x1 := ⟨_, rfl⟩
 have hst : startQ a b x y m = (a, b, x1, y) := by unfold startQ; rw [hx1]
 rw [hst] at hok
 have HST := Lib.hid hst
 have HOK := Lib.hid hok
 clear hst hok hr hq
 by_cases h4m : 4 ≤ m
 ·rw [if_pos h4m] at hx1
  have h4i : (m : Int) ≥ 4 := by omega
  go_enter Tryz.func118, Tryz.ntmps118
  go_wp2
  go_loopw [19, 0, 1] (fun e19 e0 e1 wr => ∃ (j : Nat) (a' b' x' y' : Int), j ≤ r ∧ e19 = .int .i64 j ∧ e0 = .int .i64 a' ∧ e1 = .int .i64 b' ∧ rot j (startQ a b x y m) = (a', b', x', y') ∧ Blk wr w.heap.size 87 #[.int .i64 x', .int .i64 y'] ∧ Blk wr (w.heap.size + 1) 87 #[.int .i64 0, .int .i64 0] ∧ Below w.heap.size w wr) (fun e19 _ _ _ => r - (intOf e19).toNat)
  case atStart =>
   subst hx1
   have hb1 : Blk ((w.alloc (.cells #[.int .i64 (a - 1 - x), .int .i64 y] 87)).alloc (.cells #[.int .i64 0, .int .i64 0] 87)) w.heap.size 87 #[.int .i64 (a - 1 - x), .int .i64 y] := (Blk.new w 87 #[.int .i64 (a - 1 - x), .int .i64 y]).alloc _
   have hb2 : Blk ((w.alloc (.cells #[.int .i64 (a - 1 - x), .int .i64 y] 87)).alloc (.cells #[.int .i64 0, .int .i64 0] 87)) (w.heap.size + 1) 87 #[.int .i64 0, .int .i64 0] := by
    have h := Blk.new (w.alloc (.cells #[.int .i64 (a - 1 - x), .int .i64 y] 87)) 87 #[.int .i64 0, .int .i64 0]
    rw [show (w.alloc (.cells #[.int .i64 (a - 1 - x), .int .i64 y] 87)).heap.size = w.heap.size + 1 from by simp] at h
    exact h
   exact ⟨0, a, b, a - 1 - x, y, Nat.zero_le _, rfl, rfl, rfl, HST.out, hb1, hb2, (by (repeat (first | with_reducible exact Below.refl _ _ | with_reducible assumption | with_reducible apply bel_alloc | with_reducible apply bel_drew | with_reducible apply bel_drewN | ((with_reducible refine bel_set ?_ ?_); rotate_left; (simp <;> omega)) | (with_reducible refine bel_trans ?_ (by with_reducible assumption)))))⟩
  case round =>
   obtain ⟨j, a', b', x', y', hj, rfl, rfl, rfl, hrot, hB, hB2, hb⟩ := hrel
   have ho : okQ (a', b', x', y') := by rw [← hrot, HST.out]; exact okQ_rot HOK.out j
   obtain ⟨k1, k2, k3, k4, k5, k6, k7, k8⟩ := ho
   simp only at k1 k2 k3 k4 k5 k6 k7 k8
   have c0 : wr.cell? ⟨w.heap.size, 0, none⟩ = some (.int .i64 x') := by simpa using hB.cell 0
   have c1 : wr.cell? ⟨w.heap.size, 1, none⟩ = some (.int .i64 y') := by simpa using hB.cell 1
   have f0 := hB.frozen 0
   have f1 := hB.frozen 1
   have d0 : wr.cell? ⟨w.heap.size + 1, 0, none⟩ = some (.int .i64 0) := by simpa using hB2.cell 0
   have d1 : wr.cell? ⟨w.heap.size + 1, 1, none⟩ = some (.int .i64 0) := by simpa using hB2.cell 1
   have fd0 := hB2.frozen 0
   have fd1 := hB2.frozen 1
   by_cases hlt : j < r
   ·have hj1 : (j : Int) < (r : Int) := by omega
    have HR := Lib.hid (rot_step j _ hrot)
    have hS : Blk ((wr.setCell ⟨w.heap.size, 0, none⟩ (.int .i64 (b' - 1 - y'))).setCell ⟨w.heap.size, 1, none⟩ (.int .i64 x')) w.heap.size 87 #[.int .i64 (b' - 1 - y'), .int .i64 x'] := by simpa using (hB.set_ 0 (.int .i64 (b' - 1 - y'))).set_ 1 (.int .i64 x')
    have hS2 : Blk ((wr.setCell ⟨w.heap.size, 0, none⟩ (.int .i64 (b' - 1 - y'))).setCell ⟨w.heap.size, 1, none⟩ (.int .i64 x')) (w.heap.size + 1) 87 #[.int .i64 0, .int .i64 0] := (hB2.far (by simp) _).far (by simp) _
    have HS := Lib.hid hS
    have HS2 := Lib.hid hS2
    clear hrot hB hB2 hS hS2
    go_wp2
    exact ⟨⟨j + 1, b', a', b' - 1 - y', x', by omega, by go_num, rfl, rfl, HR.out, HS.out, HS2.out, (by (repeat (first | with_reducible exact Below.refl _ _ | with_reducible assumption | with_reducible apply bel_alloc | with_reducible apply bel_drew | with_reducible apply bel_drewN | ((with_reducible refine bel_set ?_ ?_); rotate_left; (simp <;> omega)) | (with_reducible refine bel_trans ?_ (by with_reducible assumption)))))⟩, by simp [intOf]; omega⟩
   ·have hjr : j = r := by omega
    subst hjr
    have HV : Hid (carry a b x y m = (a', b', x', y')) := by show carry a b x y m = _; rw [HC.out, hrot]
    have hj1 : ¬ (j : Int) < (j : Int) := by omega
    clear hrot hB hB2
    go_wp2
    exact bodyPost_ret (v := .agg #[.int .i64 x', .int .i64 y']) (by simp [results, Tryz.results118, go_sem, d0, d1]) rfl ⟨by rw [HV.out], (by (repeat (first | with_reducible exact Below.refl _ _ | with_reducible assumption | with_reducible apply bel_alloc | with_reducible apply bel_drew | with_reducible apply bel_drewN | ((with_reducible refine bel_set ?_ ?_); rotate_left; (simp <;> omega)) | (with_reducible refine bel_trans ?_ (by with_reducible assumption)))))⟩
 ·rw [if_neg h4m] at hx1
  subst hx1
  have h4i : ¬ (m : Int) ≥ 4 := by omega
  go_enter Tryz.func118, Tryz.ntmps118
  go_wp2
  go_loopw [19, 0, 1] (fun e19 e0 e1 wr => ∃ (j : Nat) (a' b' x' y' : Int), j ≤ r ∧ e19 = .int .i64 j ∧ e0 = .int .i64 a' ∧ e1 = .int .i64 b' ∧ rot j (startQ a b x y m) = (a', b', x', y') ∧ Blk wr w.heap.size 87 #[.int .i64 x', .int .i64 y'] ∧ Blk wr (w.heap.size + 1) 87 #[.int .i64 0, .int .i64 0] ∧ Below w.heap.size w wr) (fun e19 _ _ _ => r - (intOf e19).toNat)
  case atStart =>
   have hb1 : Blk ((w.alloc (.cells #[.int .i64 x, .int .i64 y] 87)).alloc (.cells #[.int .i64 0, .int .i64 0] 87)) w.heap.size 87 #[.int .i64 x, .int .i64 y] := (Blk.new w 87 #[.int .i64 x, .int .i64 y]).alloc _
   have hb2 : Blk ((w.alloc (.cells #[.int .i64 x, .int .i64 y] 87)).alloc (.cells #[.int .i64 0, .int .i64 0] 87)) (w.heap.size + 1) 87 #[.int .i64 0, .int .i64 0] := by
    have h := Blk.new (w.alloc (.cells #[.int .i64 x, .int .i64 y] 87)) 87 #[.int .i64 0, .int .i64 0]
    rw [show (w.alloc (.cells #[.int .i64 x, .int .i64 y] 87)).heap.size = w.heap.size + 1 from by simp] at h
    exact h
   exact ⟨0, a, b, x, y, Nat.zero_le _, rfl, rfl, rfl, HST.out, hb1, hb2, (by (repeat (first | with_reducible exact Below.refl _ _ | with_reducible assumption | with_reducible apply bel_alloc | with_reducible apply bel_drew | with_reducible apply bel_drewN | ((with_reducible refine bel_set ?_ ?_); rotate_left; (simp <;> omega)) | (with_reducible refine bel_trans ?_ (by with_reducible assumption)))))⟩
  case round =>
   obtain ⟨j, a', b', x', y', hj, rfl, rfl, rfl, hrot, hB, hB2, hb⟩ := hrel
   have ho : okQ (a', b', x', y') := by rw [← hrot, HST.out]; exact okQ_rot HOK.out j
   obtain ⟨k1, k2, k3, k4, k5, k6, k7, k8⟩ := ho
   simp only at k1 k2 k3 k4 k5 k6 k7 k8
   have c0 : wr.cell? ⟨w.heap.size, 0, none⟩ = some (.int .i64 x') := by simpa using hB.cell 0
   have c1 : wr.cell? ⟨w.heap.size, 1, none⟩ = some (.int .i64 y') := by simpa using hB.cell 1
   have f0 := hB.frozen 0
   have f1 := hB.frozen 1
   have d0 : wr.cell? ⟨w.heap.size + 1, 0, none⟩ = some (.int .i64 0) := by simpa using hB2.cell 0
   have d1 : wr.cell? ⟨w.heap.size + 1, 1, none⟩ = some (.int .i64 0) := by simpa using hB2.cell 1
   have fd0 := hB2.frozen 0
   have fd1 := hB2.frozen 1
   by_cases hlt : j < r
   ·have hj1 : (j : Int) < (r : Int) := by omega
    have HR := Lib.hid (rot_step j _ hrot)
    have hS : Blk ((wr.setCell ⟨w.heap.size, 0, none⟩ (.int .i64 (b' - 1 - y'))).setCell ⟨w.heap.size, 1, none⟩ (.int .i64 x')) w.heap.size 87 #[.int .i64 (b' - 1 - y'), .int .i64 x'] := by simpa using (hB.set_ 0 (.int .i64 (b' - 1 - y'))).set_ 1 (.int .i64 x')
    have hS2 : Blk ((wr.setCell ⟨w.heap.size, 0, none⟩ (.int .i64 (b' - 1 - y'))).setCell ⟨w.heap.size, 1, none⟩ (.int .i64 x')) (w.heap.size + 1) 87 #[.int .i64 0, .int .i64 0] := (hB2.far (by simp) _).far (by simp) _
    have HS := Lib.hid hS
    have HS2 := Lib.hid hS2
    clear hrot hB hB2 hS hS2
    go_wp2
    exact ⟨⟨j + 1, b', a', b' - 1 - y', x', by omega, by go_num, rfl, rfl, HR.out, HS.out, HS2.out, (by (repeat (first | with_reducible exact Below.refl _ _ | with_reducible assumption | with_reducible apply bel_alloc | with_reducible apply bel_drew | with_reducible apply bel_drewN | ((with_reducible refine bel_set ?_ ?_); rotate_left; (simp <;> omega)) | (with_reducible refine bel_trans ?_ (by with_reducible assumption)))))⟩, by simp [intOf]; omega⟩
   ·have hjr : j = r := by omega
    subst hjr
    have HV : Hid (carry a b x y m = (a', b', x', y')) := by show carry a b x y m = _; rw [HC.out, hrot]
    have hj1 : ¬ (j : Int) < (j : Int) := by omega
    clear hrot hB hB2
    go_wp2
    exact bodyPost_ret (v := .agg #[.int .i64 x', .int .i64 y']) (by simp [results, Tryz.results118, go_sem, d0, d1]) rfl ⟨by rw [HV.out], (by (repeat (first | with_reducible exact Below.refl _ _ | with_reducible assumption | with_reducible apply bel_alloc | with_reducible apply bel_drew | with_reducible apply bel_drewN | ((with_reducible refine bel_set ?_ ?_); rotate_left; (simp <;> omega)) | (with_reducible refine bel_trans ?_ (by with_reducible assumption)))))⟩
end

section
attribute [local go_sem ↓] Go.wp_at_zero Go.wp_at_succ
theorem l23Place_even (a b x y : Int) (m : Nat) (w : World) (hq : okQ (a, b, x, y)) (hm : m < 8) (hg : m % 2 = 0) :
  Calls Tryz.prog 126 #[.int .i64 a, .int .i64 b, .int .i64 x, .int .i64 y, .int .i64 (m : Int)] w (Ret w (.tuple #[.int .i64 (carry a b x y m).2.2.1, .int .i64 (carry a b x y m).2.2.2, .bool true])) := by
 obtain ⟨r, hr⟩ : ∃ r, m % 4 = r := ⟨_, rfl⟩
 have hr4 : r < 4 := by omega
 have hmr : (m : Int) % 4 = (r : Int) := by omega
 have hm0 : (0 : Int) ≤ (m : Int) := by omega
 have hm7 : (m : Int) ≤ 7 := by omega
 obtain ⟨h1, h2, h3, h4, h5, h6, h7, h8⟩ := id hq
 simp only at h1 h2 h3 h4 h5 h6 h7 h8
 have hok := okQ_start m hq
 have HC : Hid (carry a b x y m = rot r (startQ a b x y m)) := by show carry a b x y m = _; unfold carry; rw [hr]
 obtain ⟨x1, hx1⟩ : ∃ x1, (if 4 ≤ m then a - 1 - x else x) = x1 := ⟨_, rfl⟩
 have hst : startQ a b x y m = (a, b, x1, y) := by unfold startQ; rw [hx1]
 rw [hst] at hok
 have HST := Lib.hid hst
 have HOK := Lib.hid hok
 clear hst hok hr hq
 have hm2 : (m : Int) % 2 = 0 := by omega
 clear hg
 by_cases h4m : 4 ≤ m
 ·rw [if_pos h4m] at hx1
  have h4i : (m : Int) ≥ 4 := by omega
  go_enter Tryz.func126, Tryz.ntmps126
  go_wp2
  go_loopw [13, 0, 1, 2, 3] (fun e13 e0 e1 e2 e3 wr => ∃ (j : Nat) (a' b' x' y' : Int), j ≤ r ∧ e13 = .int .i64 j ∧ e0 = .int .i64 a' ∧ e1 = .int .i64 b' ∧ e2 = .int .i64 x' ∧ e3 = .int .i64 y' ∧ rot j (startQ a b x y m) = (a', b', x', y') ∧ Below w.heap.size w wr) (fun e13 _ _ _ _ _ => r - (intOf e13).toNat)
  case atStart => exact ⟨0, a, b, x1, y, Nat.zero_le _, rfl, rfl, rfl, by rw [← hx1], rfl, HST.out, Below.refl _ _⟩
  case round =>
   obtain ⟨j, a', b', x', y', hj, rfl, rfl, rfl, rfl, rfl, hrot, hb⟩ := hrel
   have ho : okQ (a', b', x', y') := by rw [← hrot, HST.out]; exact okQ_rot HOK.out j
   obtain ⟨k1, k2, k3, k4, k5, k6, k7, k8⟩ := ho
   simp only at k1 k2 k3 k4 k5 k6 k7 k8
   by_cases hlt : j < r
   ·have hj1 : (j : Int) < (r : Int) := by omega
    have HR := Lib.hid (rot_step j _ hrot)
    clear hrot
    go_wp2
    exact ⟨⟨j + 1, b', a', b' - 1 - y', x', by omega, by go_num, rfl, rfl, rfl, rfl, HR.out, hb⟩, by simp [intOf]; omega⟩
   ·have hjr : j = r := by omega
    subst hjr
    have HV : Hid (carry a b x y m = (a', b', x', y')) := by show carry a b x y m = _; rw [HC.out, hrot]
    have hj1 : ¬ (j : Int) < (j : Int) := by omega
    clear hrot
    go_wp2
    exact bodyPost_ret (v := .tuple #[.int .i64 x', .int .i64 y', .bool true]) (by simp [results, Tryz.results126, go_sem]) rfl ⟨by rw [HV.out], hb⟩
 ·rw [if_neg h4m] at hx1
  subst hx1
  have h4i : ¬ (m : Int) ≥ 4 := by omega
  go_enter Tryz.func126, Tryz.ntmps126
  go_wp2
  go_loopw [13, 0, 1, 2, 3] (fun e13 e0 e1 e2 e3 wr => ∃ (j : Nat) (a' b' x' y' : Int), j ≤ r ∧ e13 = .int .i64 j ∧ e0 = .int .i64 a' ∧ e1 = .int .i64 b' ∧ e2 = .int .i64 x' ∧ e3 = .int .i64 y' ∧ rot j (startQ a b x y m) = (a', b', x', y') ∧ Below w.heap.size w wr) (fun e13 _ _ _ _ _ => r - (intOf e13).toNat)
  case atStart => exact ⟨0, a, b, x, y, Nat.zero_le _, rfl, rfl, rfl, rfl, rfl, HST.out, Below.refl _ _⟩
  case round =>
   obtain ⟨j, a', b', x', y', hj, rfl, rfl, rfl, rfl, rfl, hrot, hb⟩ := hrel
   have ho : okQ (a', b', x', y') := by rw [← hrot, HST.out]; exact okQ_rot HOK.out j
   obtain ⟨k1, k2, k3, k4, k5, k6, k7, k8⟩ := ho
   simp only at k1 k2 k3 k4 k5 k6 k7 k8
   by_cases hlt : j < r
   ·have hj1 : (j : Int) < (r : Int) := by omega
    have HR := Lib.hid (rot_step j _ hrot)
    clear hrot
    go_wp2
    exact ⟨⟨j + 1, b', a', b' - 1 - y', x', by omega, by go_num, rfl, rfl, rfl, rfl, HR.out, hb⟩, by simp [intOf]; omega⟩
   ·have hjr : j = r := by omega
    subst hjr
    have HV : Hid (carry a b x y m = (a', b', x', y')) := by show carry a b x y m = _; rw [HC.out, hrot]
    have hj1 : ¬ (j : Int) < (j : Int) := by omega
    clear hrot
    go_wp2
    exact bodyPost_ret (v := .tuple #[.int .i64 x', .int .i64 y', .bool true]) (by simp [results, Tryz.results126, go_sem]) rfl ⟨by rw [HV.out], hb⟩
theorem l23Place_square (a b x y : Int) (m : Nat) (w : World) (hq : okQ (a, b, x, y)) (hm : m < 8) (hg : m % 2 = 1 ∧ a = b) :
  Calls Tryz.prog 126 #[.int .i64 a, .int .i64 b, .int .i64 x, .int .i64 y, .int .i64 (m : Int)] w (Ret w (.tuple #[.int .i64 (carry a b x y m).2.2.1, .int .i64 (carry a b x y m).2.2.2, .bool true])) := by
 obtain ⟨hg1, rfl⟩ := hg
 obtain ⟨r, hr⟩ : ∃ r, m % 4 = r := ⟨_, rfl⟩
 have hr4 : r < 4 := by omega
 have hmr : (m : Int) % 4 = (r : Int) := by omega
 have hm0 : (0 : Int) ≤ (m : Int) := by omega
 have hm7 : (m : Int) ≤ 7 := by omega
 obtain ⟨h1, h2, h3, h4, h5, h6, h7, h8⟩ := id hq
 simp only at h1 h2 h3 h4 h5 h6 h7 h8
 have hok := okQ_start m hq
 have HC : Hid (carry a a x y m = rot r (startQ a a x y m)) := by show carry a a x y m = _; unfold carry; rw [hr]
 obtain ⟨x1, hx1⟩ : ∃ x1, (if 4 ≤ m then a - 1 - x else x) = x1 := ⟨_, rfl⟩
 have hst : startQ a a x y m = (a, a, x1, y) := by unfold startQ; rw [hx1]
 rw [hst] at hok
 have HST := Lib.hid hst
 have HOK := Lib.hid hok
 clear hst hok hr hq
 have hm2 : (m : Int) % 2 = 1 := by omega
 clear hg1
 by_cases h4m : 4 ≤ m
 ·rw [if_pos h4m] at hx1
  have h4i : (m : Int) ≥ 4 := by omega
  go_enter Tryz.func126, Tryz.ntmps126
  go_wp2
  go_loopw [13, 0, 1, 2, 3] (fun e13 e0 e1 e2 e3 wr => ∃ (j : Nat) (a' b' x' y' : Int), j ≤ r ∧ e13 = .int .i64 j ∧ e0 = .int .i64 a' ∧ e1 = .int .i64 b' ∧ e2 = .int .i64 x' ∧ e3 = .int .i64 y' ∧ rot j (startQ a a x y m) = (a', b', x', y') ∧ Below w.heap.size w wr) (fun e13 _ _ _ _ _ => r - (intOf e13).toNat)
  case atStart => exact ⟨0, a, a, x1, y, Nat.zero_le _, rfl, rfl, rfl, by rw [← hx1], rfl, HST.out, Below.refl _ _⟩
  case round =>
   obtain ⟨j, a', b', x', y', hj, rfl, rfl, rfl, rfl, rfl, hrot, hb⟩ := hrel
   have ho : okQ (a', b', x', y') := by rw [← hrot, HST.out]; exact okQ_rot HOK.out j
   obtain ⟨k1, k2, k3, k4, k5, k6, k7, k8⟩ := ho
   simp only at k1 k2 k3 k4 k5 k6 k7 k8
   by_cases hlt : j < r
   ·have hj1 : (j : Int) < (r : Int) := by omega
    have HR := Lib.hid (rot_step j _ hrot)
    clear hrot
    go_wp2
    exact ⟨⟨j + 1, b', a', b' - 1 - y', x', by omega, by go_num, rfl, rfl, rfl, rfl, HR.out, hb⟩, by simp [intOf]; omega⟩
   ·have hjr : j = r := by omega
    subst hjr
    have HV : Hid (carry a a x y m = (a', b', x', y')) := by show carry a a x y m = _; rw [HC.out, hrot]
    have hj1 : ¬ (j : Int) < (j : Int) := by omega
    clear hrot
    go_wp2
    exact bodyPost_ret (v := .tuple #[.int .i64 x', .int .i64 y', .bool true]) (by simp [results, Tryz.results126, go_sem]) rfl ⟨by rw [HV.out], hb⟩
 ·rw [if_neg h4m] at hx1
  subst hx1
  have h4i : ¬ (m : Int) ≥ 4 := by omega
  go_enter Tryz.func126, Tryz.ntmps126
  go_wp2
  go_loopw [13, 0, 1, 2, 3] (fun e13 e0 e1 e2 e3 wr => ∃ (j : Nat) (a' b' x' y' : Int), j ≤ r ∧ e13 = .int .i64 j ∧ e0 = .int .i64 a' ∧ e1 = .int .i64 b' ∧ e2 = .int .i64 x' ∧ e3 = .int .i64 y' ∧ rot j (startQ a a x y m) = (a', b', x', y') ∧ Below w.heap.size w wr) (fun e13 _ _ _ _ _ => r - (intOf e13).toNat)
  case atStart => exact ⟨0, a, a, x, y, Nat.zero_le _, rfl, rfl, rfl, rfl, rfl, HST.out, Below.refl _ _⟩
  case round =>
   obtain ⟨j, a', b', x', y', hj, rfl, rfl, rfl, rfl, rfl, hrot, hb⟩ := hrel
   have ho : okQ (a', b', x', y') := by rw [← hrot, HST.out]; exact okQ_rot HOK.out j
   obtain ⟨k1, k2, k3, k4, k5, k6, k7, k8⟩ := ho
   simp only at k1 k2 k3 k4 k5 k6 k7 k8
   by_cases hlt : j < r
   ·have hj1 : (j : Int) < (r : Int) := by omega
    have HR := Lib.hid (rot_step j _ hrot)
    clear hrot
    go_wp2
    exact ⟨⟨j + 1, b', a', b' - 1 - y', x', by omega, by go_num, rfl, rfl, rfl, rfl, HR.out, hb⟩, by simp [intOf]; omega⟩
   ·have hjr : j = r := by omega
    subst hjr
    have HV : Hid (carry a a x y m = (a', b', x', y')) := by show carry a a x y m = _; rw [HC.out, hrot]
    have hj1 : ¬ (j : Int) < (j : Int) := by omega
    clear hrot
    go_wp2
    exact bodyPost_ret (v := .tuple #[.int .i64 x', .int .i64 y', .bool true]) (by simp [results, Tryz.results126, go_sem]) rfl ⟨by rw [HV.out], hb⟩
theorem l23Place_no (a b x y : Int) (m : Nat) (w : World) (hm : m < 8) (hg : m % 2 = 1) (hab : a ≠ b) :
  Calls Tryz.prog 126 #[.int .i64 a, .int .i64 b, .int .i64 x, .int .i64 y, .int .i64 (m : Int)] w (Ret w (.tuple #[.int .i64 0, .int .i64 0, .bool false])) := by
 have hm2 : (m : Int) % 2 = 1 := by omega
 have hm0 : (0 : Int) ≤ (m : Int) := by omega
 have e : (a == b) = false := beq_eq_false_iff_ne.2 hab
 clear hab
 go_enter Tryz.func126, Tryz.ntmps126
 go_wp2
 exact bodyPost_ret (v := .tuple #[.int .i64 0, .int .i64 0, .bool false]) (by simp [results, Tryz.results126, go_sem]) rfl ⟨rfl, (by (repeat (first | with_reducible exact Below.refl _ _ | with_reducible assumption | with_reducible apply bel_alloc | with_reducible apply bel_drew | with_reducible apply bel_drewN | ((with_reducible refine bel_set ?_ ?_); rotate_left; (simp <;> omega)) | (with_reducible refine bel_trans ?_ (by with_reducible assumption)))))⟩
end

section
attribute [local go_sem ↓] Go.wp_at_zero Go.wp_at_succ
theorem l23Place_go (a b x y : Int) (m : Nat) (w : World) (hq : okQ (a, b, x, y)) (hm : m < 8) (hg : m % 2 = 0 ∨ a = b) :
  Calls Tryz.prog 126 #[.int .i64 a, .int .i64 b, .int .i64 x, .int .i64 y, .int .i64 (m : Int)] w (Ret w (.tuple #[.int .i64 (carry a b x y m).2.2.1, .int .i64 (carry a b x y m).2.2.2, .bool true])) := by
 rcases Nat.mod_two_eq_zero_or_one m with h | h
 ·exact l23Place_even a b x y m w hq hm h
 ·rcases hg with h2 | h2
  ·omega
  ·exact l23Place_square a b x y m w hq hm ⟨h, h2⟩
theorem grid_ok {n h k : Nat} (hn : 1 ≤ n ∧ n ≤ 6) (hh : 1 ≤ h ∧ h ≤ 6) (hk : k < n * h) : okQ ((n : Int), (h : Int), ((k % n : Nat) : Int), ((k / n : Nat) : Int)) := by
 have h1 : k % n < n := Nat.mod_lt _ (by omega)
 have h2 : k / n < h := Nat.div_lt_of_lt_mul hk
 generalize k % n = a at h1
 generalize k / n = b at h2
 unfold okQ
 simp only
 omega
theorem bit_test (m k : Nat) (hm : m < 2 ^ 62) : (bits .and .i64 ((m : Int) / 2 ^ k) 1 == 1) = m.testBit k := by
 have e : ((m : Int) / 2 ^ k) = ((m / 2 ^ k : Nat) : Int) := by simp
 have hle := Nat.div_le_self m (2 ^ k)
 have h1 := i64_and (m / 2 ^ k) 1 (by omega) (by decide)
 rw [e, show (1 : Int) = ((1 : Nat) : Int) from rfl, h1, Nat.and_one_is_mod, bit_and]
 cases m.testBit k <;> rfl
theorem pos_int {n h m : Nat} {x y : Int} (hq : okQ ((n : Int), (h : Int), x, y)) : (carry n h x y m).2.2.2 * (n : Int) + (carry n h x y m).2.2.1 = (((carry n h x y m).2.2.2 * n + (carry n h x y m).2.2.1).toNat : Int) := by
 have h1 := carry_small hq m
 unfold okQ at h1
 obtain ⟨_, _, _, _, h5, _, h7, _⟩ := h1
 have : 0 ≤ (carry n h x y m).2.2.2 * (n : Int) := Int.mul_nonneg h7 (by omega)
 omega
theorem l23Place_q (a b x y : Int) (m : Nat) (w : World) (hq : okQ (a, b, x, y)) (hm : m < 8) (hg : m % 2 = 0 ∨ a = b) {a' b' x' y' : Int} (he : carry a b x y m = (a', b', x', y')) :
  Calls Tryz.prog 126 #[.int .i64 a, .int .i64 b, .int .i64 x, .int .i64 y, .int .i64 (m : Int)] w (Ret w (.tuple #[.int .i64 x', .int .i64 y', .bool true])) := by
 have h := l23Place_go a b x y m w hq hm hg
 rw [he] at h
 exact h
theorem l23Turn_s (n : Nat) (A : Option Addr) (h c : Nat) (rows : List Int) (mask m : Nat) (w : World) (hr : Rd w A (vI rows)) (hl : rows.length = h) (hn : 1 ≤ n ∧ n ≤ 6) (hh : 1 ≤ h ∧ h ≤ 6) (hm : m < 8) (hg : goesM n h m = true) (hmask : mask < 2 ^ 62) :
  Calls Tryz.prog 72 #[.agg #[.int .i64 (n : Int), .slice A h c], .int .i64 (mask : Int), .int .i64 (m : Int)] w (Ret w (.tuple #[.int .i64 (turnTo n h m mask (n * h) : Nat), .bool true])) := by
 obtain ⟨hp1, hp2⟩ := pos_ok hn hh hm hg
 have hg2 : m % 2 = 0 ∨ (n : Int) = (h : Int) := by
  unfold goesM at hg
  simp only [Bool.or_eq_true, beq_iff_eq] at hg
  omega
 obtain ⟨N, hN⟩ : ∃ N, n * h = N := ⟨_, rfl⟩
 have h36 : n * h ≤ 6 * 6 := Nat.mul_le_mul hn.2 hh.2
 have hNi : (n : Int) * (h : Int) = (N : Int) := by rw [← hN]; simp
 have HP1 := Lib.hid hp1
 have HP2 := Lib.hid hp2
 have HG := Lib.hid hg2
 have HN := Lib.hid hN
 have hN36 : N ≤ 36 := by omega
 obtain ⟨hn1, hn6⟩ := hn
 obtain ⟨hh1, hh6⟩ := hh
 clear hp1 hp2 hg2 hg hl hN h36
 go_enter Tryz.func72, Tryz.ntmps72
 go_wp2
 go_loopw [9, 8] (fun i t wr => ∃ k v : Nat, k ≤ N ∧ i = .int .i64 k ∧ t = .int .i64 v ∧ v = turnTo n h m mask k ∧ Below (w.alloc (.cells #[.int .i64 (n : Int), .slice A h c] 26)).heap.size (w.alloc (.cells #[.int .i64 (n : Int), .slice A h c] 26)) wr) (fun i _ _ => N - (intOf i).toNat)
 case atStart => exact ⟨0, 0, Nat.zero_le _, rfl, rfl, rfl, Below.refl _ _⟩
 case round =>
  obtain ⟨k, v, hk, rfl, rfl, hv, hb⟩ := hrel
  have hB := (Blk.new w 26 #[.int .i64 (n : Int), .slice A h c]).below hb
  have d0 : wr.cell? ⟨w.heap.size, 0, none⟩ = some (.int .i64 (n : Int)) := by simpa using hB.cell 0
  have d1 : wr.cell? ⟨w.heap.size, 1, none⟩ = some (.slice A h c) := by simpa using hB.cell 1
  have hgw := hB.lt
  clear hB
  by_cases hlt : k < N
  ·have hk0 : (0 : Int) ≤ (k : Int) := by omega
   have hk1 : (k : Int) < (N : Int) := by omega
   have hkn : k < n * h := by rw [HN.out]; exact hlt
   have hgrid := Lib.hid (grid_ok ⟨hn1, hn6⟩ ⟨hh1, hh6⟩ hkn)
   obtain ⟨xk, hxk⟩ : ∃ xk, k % n = xk := ⟨_, rfl⟩
   obtain ⟨yk, hyk⟩ : ∃ yk, k / n = yk := ⟨_, rfl⟩
   have e1 : (k : Int) % (n : Int) = (xk : Int) := by rw [← hxk]; rfl
   have e2 : (k : Int) / (n : Int) = (yk : Int) := by rw [← hyk]; rfl
   have e3 : (k : Int).tmod (n : Int) = (xk : Int) := by rw [Int.tmod_eq_emod_of_nonneg hk0]; exact e1
   have e4 : (k : Int).tdiv (n : Int) = (yk : Int) := by rw [Int.tdiv_eq_ediv_of_nonneg hk0]; exact e2
   have hyk36 : yk ≤ 36 := by rw [← hyk]; have := Nat.div_le_self k n; omega
   have e5 : IntKind.i64.wrap (yk : Int) = (yk : Int) := Go.IntWalk.i64_in _ (by omega)
   have hn0 : ((n : Int) == 0) = false := beq_eq_false_iff_ne.2 (by omega)
   have hn00 : ¬ (n : Int) = 0 := by omega
   have hgr : Hid (okQ ((n : Int), (h : Int), (xk : Int), (yk : Int))) := by rw [← hxk, ← hyk]; exact hgrid.out
   have hnn : ¬ n = 0 := by omega
   have hxk36 : xk ≤ 36 := by rw [← hxk]; have := Nat.mod_lt k (show 0 < n by omega); omega
   have e6 : IntKind.i64.wrap (xk : Int) = (xk : Int) := Go.IntWalk.i64_in _ (by omega)
   clear hgrid
   have HV := Lib.hid hv
   clear hv hkn
   have hbit : (bits .and .i64 ((mask : Int) / 2 ^ k) 1 == 1) = mask.testBit k := bit_test mask k hmask
   have hpos := pos_int (m := m) hgr.out
   have hposk : pos n h m k = ((carry n h xk yk m).2.2.2 * n + (carry n h xk yk m).2.2.1).toNat := by unfold pos; rw [hxk, hyk]
   have hcs := carry_small hgr.out m
   obtain ⟨⟨a', b', x', y'⟩, hq4⟩ : ∃ q, carry n h xk yk m = q := ⟨_, rfl⟩
   rw [hq4] at hpos hposk hcs
   rw [← hposk] at hpos
   have hjN := HP1.out k (by rw [HN.out]; exact hlt)
   have hturn : turnTo n h m mask (k + 1) = v + (if mask.testBit k then 2 ^ pos n h m k else 0) := by rw [HV.out]; rfl
   have hvlt := (turn_bits (mask := mask) HP2.out HP1.out (by rw [HN.out]; exact hN36) k (by rw [HN.out]; omega)).1
   rw [← HV.out] at hvlt
   rw [HN.out] at hvlt hjN
   generalize pos n h m k = j at hpos hposk hjN hturn
   obtain ⟨z, hz⟩ : ∃ z : Int, y' * (n : Int) = z := ⟨_, rfl⟩
   have hzj : z + x' = (j : Int) := by rw [← hz]; exact hpos
   have h2N : (2 : Nat) ^ N ≤ 2 ^ 36 := Nat.pow_le_pow_right (by decide) hN36
   have h2j : (2 : Nat) ^ j < 2 ^ 36 := Nat.pow_lt_pow_right (by decide) (by omega)
   obtain ⟨t, ht⟩ : ∃ t : Nat, 2 ^ j = t := ⟨_, rfl⟩
   have htI : (2 : Int) ^ j = (t : Int) := by rw [← ht]; simp
   rw [ht] at h2j hturn
   have hj64 : (j : Int) ≤ 64 := by omega
   have hj0 : (0 : Int) ≤ (j : Int) := by omega
   unfold okQ at hcs
   simp only at hcs
   obtain ⟨k1, k2, k3, k4, k5, k6, k7, k8⟩ := hcs
   have hz0 : 0 ≤ z := by rw [← hz]; exact Int.mul_nonneg k7 (by omega)
   have hz36 : 0 ≤ z ∧ z ≤ 36 := by constructor <;> omega
   have HQ4 := Lib.hid hq4
   clear hq4 hposk hpos
   cases hb1 : mask.testBit k with
   | true =>
    rw [hb1] at hbit
    rw [hb1, if_pos rfl] at hturn
    have HT := Lib.hid hturn
    clear hturn hb1
    go_wp2_with fail
    (refine wp_region_below (by kernel_rfl) (by kernel_rfl) ?_; (repeat (first | go_big_quiet_skip | (refine quietV (v := ?_) (by rfl) rfl (fun w' hbw => ?_) ?_; rotate_left; ((try dsimp only at hbw); have hbc := (bcell hbw).1; have hbf := (bcell hbw).2; go_simp; first | done | with_reducible rfl | (exact callsB (v := .tuple #[.int .i64 x', .int .i64 y', .bool true]) (l23Place_q _ _ _ _ m _ hgr.out hm HG.out HQ4.out) hbw)); simp only [sq1, sq2, sq3]))); refine wpQuiet_nil ?_; intro wq hbq)
    have y0 := keep_below hbq d0
    go_wp2_with fail
    exact ⟨⟨k + 1, v + t, by omega, by go_num, by go_num, HT.out.symm, (by (repeat (first | with_reducible exact Below.refl _ _ | with_reducible assumption | with_reducible apply bel_alloc | with_reducible apply bel_drew | with_reducible apply bel_drewN | ((with_reducible refine bel_set ?_ ?_); rotate_left; (simp <;> omega)) | (with_reducible refine bel_trans ?_ (by with_reducible assumption)))))⟩, by simp [intOf]; omega⟩
   | false =>
    rw [hb1] at hbit
    rw [hb1] at hturn
    have HT := Lib.hid (hturn.trans (Nat.add_zero _))
    clear hturn hb1
    go_wp2_with fail
    (refine wp_region_below (by kernel_rfl) (by kernel_rfl) ?_; (repeat (first | go_big_quiet_skip | (refine quietV (v := ?_) (by rfl) rfl (fun w' hbw => ?_) ?_; rotate_left; ((try dsimp only at hbw); have hbc := (bcell hbw).1; have hbf := (bcell hbw).2; go_simp; first | done | with_reducible rfl | (exact callsB (v := .tuple #[.int .i64 x', .int .i64 y', .bool true]) (l23Place_q _ _ _ _ m _ hgr.out hm HG.out HQ4.out) hbw)); simp only [sq1, sq2, sq3]))); refine wpQuiet_nil ?_; intro wq hbq)
    go_wp2_with fail
    exact ⟨⟨k + 1, v, by omega, by go_num, rfl, HT.out.symm, (by (repeat (first | with_reducible exact Below.refl _ _ | with_reducible assumption | with_reducible apply bel_alloc | with_reducible apply bel_drew | with_reducible apply bel_drewN | ((with_reducible refine bel_set ?_ ?_); rotate_left; (simp <;> omega)) | (with_reducible refine bel_trans ?_ (by with_reducible assumption)))))⟩, by simp [intOf]; omega⟩
  ·have hkN : k = N := by omega
   subst hkN
   have HV : Hid (v = turnTo n h m mask (n * h)) := by rw [HN.out]; exact hv
   have hk1 : ¬ (k : Int) < (k : Int) := by omega
   clear hv
   go_wp2
   go_ret2
   exact ⟨by rw [← HV.out]; rfl, (by (repeat (first | with_reducible exact Below.refl _ _ | with_reducible assumption | with_reducible apply bel_alloc | with_reducible apply bel_drew | with_reducible apply bel_drewN | ((with_reducible refine bel_set ?_ ?_); rotate_left; (simp <;> omega)) | (with_reducible refine bel_trans ?_ (by with_reducible assumption)))))⟩
theorem l23Turn_no (n : Nat) (A : Option Addr) (h c : Nat) (mask : Int) (m : Nat) (w : World) (hn : 1 ≤ n ∧ n ≤ 6) (hh : 1 ≤ h ∧ h ≤ 6) (hm : m < 8) (hg : goesM n h m = false) :
  Calls Tryz.prog 72 #[.agg #[.int .i64 (n : Int), .slice A h c], .int .i64 mask, .int .i64 (m : Int)] w (Ret w (.tuple #[.int .i64 0, .bool false])) := by
 have hg2 : m % 2 = 1 ∧ (n : Int) ≠ (h : Int) := by
  unfold goesM at hg
  simp only [Bool.or_eq_false_iff, beq_eq_false_iff_ne] at hg
  omega
 obtain ⟨N, hN⟩ : ∃ N, n * h = N := ⟨_, rfl⟩
 have hNi : (n : Int) * (h : Int) = (N : Int) := by rw [← hN]; simp
 have hN36 : N ≤ 36 := by have : n * h ≤ 6 * 6 := Nat.mul_le_mul hn.2 hh.2; omega
 have hN1 : (0 : Int) < (N : Int) := by have : 1 * 1 ≤ n * h := Nat.mul_le_mul hn.1 hh.1; omega
 have HG := Lib.hid hg2
 obtain ⟨hn1, hn6⟩ := hn
 obtain ⟨hh1, hh6⟩ := hh
 have hnn : ¬ n = 0 := by omega
 clear hg2 hg hN
 go_enter Tryz.func72, Tryz.ntmps72
 go_wp2
 go_loopw [9, 8] (fun i t wr => i = .int .i64 0 ∧ t = .int .i64 0 ∧ Below (w.alloc (.cells #[.int .i64 (n : Int), .slice A h c] 26)).heap.size (w.alloc (.cells #[.int .i64 (n : Int), .slice A h c] 26)) wr) (fun _ _ _ => 0)
 case atStart => exact ⟨rfl, rfl, Below.refl _ _⟩
 case round =>
  obtain ⟨rfl, rfl, hb⟩ := hrel
  have hB := (Blk.new w 26 #[.int .i64 (n : Int), .slice A h c]).below hb
  have d0 : wr.cell? ⟨w.heap.size, 0, none⟩ = some (.int .i64 (n : Int)) := by simpa using hB.cell 0
  have d1 : wr.cell? ⟨w.heap.size, 1, none⟩ = some (.slice A h c) := by simpa using hB.cell 1
  have hgw := hB.lt
  clear hB
  go_wp2_with fail
  (refine wp_region_below (by kernel_rfl) (by kernel_rfl) ?_; (repeat (first | go_big_quiet_skip | (refine quietV (v := ?_) (by rfl) rfl (fun w' hbw => ?_) ?_; rotate_left; ((try dsimp only at hbw); have hbc := (bcell hbw).1; have hbf := (bcell hbw).2; go_simp; first | done | with_reducible rfl | (exact callsB (v := .tuple #[.int .i64 0, .int .i64 0, .bool false]) (l23Place_no _ _ _ _ m _ hm HG.out.1 HG.out.2) hbw)); simp only [sq1, sq2, sq3]))); refine wpQuiet_nil ?_; intro wq hbq)
  go_wp2_with fail
  go_ret2
  exact ⟨rfl, (by (repeat (first | with_reducible exact Below.refl _ _ | with_reducible assumption | with_reducible apply bel_alloc | with_reducible apply bel_drew | with_reducible apply bel_drewN | ((with_reducible refine bel_set ?_ ?_); rotate_left; (simp <;> omega)) | (with_reducible refine bel_trans ?_ (by with_reducible assumption)))))⟩
end

section
attribute [local go_sem ↓] Go.wp_at_zero Go.wp_at_succ
def plTo (n mask : Nat) : Nat → List C
 | 0 => []
 | k + 1 => plTo n mask k ++ (if mask.testBit k then [(((k % n : Nat) : Int), ((k / n : Nat) : Int))] else [])
theorem plTo_len (n mask : Nat) : ∀ k, (plTo n mask k).length ≤ k
 | 0 => Nat.le_refl _
 | k + 1 => by
  have := plTo_len n mask k
  show (plTo n mask k ++ _).length ≤ _
  rw [List.length_append]
  split <;> simp <;> omega
theorem plTo_end {n mask k : Nat} (h : mask / 2 ^ k = 0) : ∀ j, k ≤ j → plTo n mask j = plTo n mask k := by
 intro j hj
 induction j with
 | zero => rw [show k = 0 from by omega]
 | succ j ih =>
  by_cases e : k = j + 1
  ·rw [e]
  ·have hb : mask.testBit j = false := by
    have hlt : mask < 2 ^ k := (Nat.div_eq_zero_iff_lt (Nat.two_pow_pos k)).1 h
    exact Nat.testBit_lt_two_pow (Nat.lt_of_lt_of_le hlt (Nat.pow_le_pow_right (by decide) (by omega)))
   show plTo n mask j ++ _ = _
   rw [hb, ih (by omega)]
   simp
theorem places_i (n mask N : Nat) (w : World) (hn : 1 ≤ n ∧ n ≤ 6) (hN : N ≤ 36) (hmask : mask < 2 ^ N) :
  Calls Tryz.prog 117 #[.int .i64 (n : Int), .int .i64 (mask : Int)] w (RetS w 87 2 (vC (plTo n mask N))) := by
 have h62 : (2 : Nat) ^ N ≤ 2 ^ 36 := Nat.pow_le_pow_right (by decide) hN
 obtain ⟨hn1, hn6⟩ := hn
 have hmk : mask < 2 ^ 62 := by omega
 have HM := Lib.hid hmask
 clear hmask h62
 go_enter Tryz.func117, Tryz.ntmps117
 go_wp2
 go_loopw [6, 5] (fun i e wr => ∃ (k q cq : Nat) (A : Option Addr), k ≤ N ∧ q ≤ k ∧ i = .int .i64 k ∧ e = .slice A q cq ∧ wr.ownsRow w.heap.size 87 2 (.slice A q cq) q (vC (plTo n mask k)) ∧ Below w.heap.size w wr) (fun i _ _ => N - (intOf i).toNat)
 case atStart => exact ⟨0, 0, 0, none, Nat.zero_le _, Nat.le_refl _, rfl, rfl, own_nil _ _ _ _, Below.refl _ _⟩
 case round =>
  obtain ⟨k, q, cq, A, hk, hqk, rfl, rfl, hown, hb⟩ := hrel
  have hk0 : (0 : Int) ≤ (k : Int) := by omega
  have hk64 : (k : Int) ≤ 64 := by omega
  obtain ⟨d, hd⟩ : ∃ d, mask / 2 ^ k = d := ⟨_, rfl⟩
  have hdI : (mask : Int) / 2 ^ k = (d : Int) := by rw [← hd]; simp
  have hbit := bit_test mask k hmk
  rw [hdI] at hbit
  by_cases hd0 : d = 0
  ·have hend := plTo_end (n := n) (hd.trans hd0) N hk
   rw [← hend] at hown
   have HO := Lib.hid hown
   have hz : ((d : Int) == 0) = true := by simp [hd0]
   clear hown hend hd hd0
   go_wp2
   go_ret
   exact ⟨_, _, _, rfl, HO.out, hb⟩
  ·have hkN : k < N := by
    rcases Nat.lt_or_ge k N with h | h
    ·exact h
    ·exfalso
     have : mask < 2 ^ k := Nat.lt_of_lt_of_le HM.out (Nat.pow_le_pow_right (by decide) h)
     rw [Nat.div_eq_of_lt this] at hd
     exact hd0 hd.symm
   have hz : ((d : Int) == 0) = false := beq_eq_false_iff_ne.2 (by omega)
   obtain ⟨xk, hxk⟩ : ∃ xk, k % n = xk := ⟨_, rfl⟩
   obtain ⟨yk, hyk⟩ : ∃ yk, k / n = yk := ⟨_, rfl⟩
   have hstep : plTo n mask (k + 1) = plTo n mask k ++ (if mask.testBit k then [((xk : Int), (yk : Int))] else []) := by rw [← hxk, ← hyk]; rfl
   have HO := Lib.hid hown
   clear hown hd hd0
   cases hb1 : mask.testBit k with
   | false =>
    rw [hb1] at hbit hstep
    have HS := Lib.hid (hstep.trans (List.append_nil _))
    clear hstep hb1 hxk hyk
    go_wp2_with fail
    exact ⟨⟨k + 1, q, cq, A, by omega, by omega, by go_num, rfl, by rw [HS.out]; exact HO.out, hb⟩, by simp [intOf]; omega⟩
   | true =>
    rw [hb1] at hbit
    rw [hb1, if_pos rfl] at hstep
    have HS := Lib.hid hstep
    have e1 : (k : Int) % (n : Int) = (xk : Int) := by rw [← hxk]; rfl
    have e2 : (k : Int) / (n : Int) = (yk : Int) := by rw [← hyk]; rfl
    have e3 : (k : Int).tmod (n : Int) = (xk : Int) := by rw [Int.tmod_eq_emod_of_nonneg hk0]; exact e1
    have e4 : (k : Int).tdiv (n : Int) = (yk : Int) := by rw [Int.tdiv_eq_ediv_of_nonneg hk0]; exact e2
    have hyk36 : yk ≤ 36 := by rw [← hyk]; have := Nat.div_le_self k n; omega
    have hxk36 : xk ≤ 36 := by rw [← hxk]; have := Nat.mod_lt k (show 0 < n by omega); omega
    have e5 : IntKind.i64.wrap (yk : Int) = (yk : Int) := Go.IntWalk.i64_in _ (by omega)
    have e6 : IntKind.i64.wrap (xk : Int) = (xk : Int) := Go.IntWalk.i64_in _ (by omega)
    have hnn : ¬ n = 0 := by omega
    have hbz := hb.size
    clear hstep hb1
    go_wp2_with fail
    (refine wp_region_tailN (C := Gr wr A) 8 (by kernel_rfl) (by kernel_rfl) (Gr.drawn _ _) (fun _ _ h k => h.ext k) ?_; simp only [List.take_succ_cons, List.take_zero, List.drop_succ_cons, List.drop_zero]; (repeat (first | (refine headSkip (by rfl) rfl ?_; simp only [sq1, sq2, sq3]) | (refine headV (v := ?_) (by rfl) rfl (fun w' hcw => ?_) ?_; rotate_left; ((try dsimp only at hcw); have hbc := hcw.cells; go_simp; first | done | with_reducible rfl | fail); simp only [sq1, sq2, sq3]))); unfold wpHead)
    (refine tailK (by rfl) (fun w3 hc3 he3 K hK => ?_); go_simp; refine hK _ _ (hc3.ext (by (repeat (first | with_reducible exact Below.refl _ _ | with_reducible assumption | with_reducible apply bel_alloc | with_reducible apply bel_drew | with_reducible apply bel_drewN | ((with_reducible refine bel_set ?_ ?_); rotate_left; (simp <;> omega)) | (with_reducible refine bel_trans ?_ (by with_reducible assumption)))))) ?_; clear hK K)
    (refine tailK (by rfl) (fun w4 hc4 he4 K hK => ?_); refine wpC _ _ _ rfl w.heap.size A q cq (plTo n mask k) rfl (own_keep ((own_keep HO.out he3).alloc _) he4) _ 1 1 [((xk : Int), (yk : Int))] rfl (Rd.below (rd_newC _ _ _ _) he4) rfl (by omega) (by have h2 := he3.size; have h3 := he4.size; simp at h3; omega) ?_; intro A2 c2 w5 hown5 hg5 _; refine hK _ _ (Gr.trans hc4 hg5) ?_; clear hK K; simp only [Act.put, List.setIfInBounds_toArray, List.set_cons_zero, List.set_cons_succ])
    (refine tailK (by rfl) (fun w6 hc6 he6 K hK => ?_); go_simp; refine hK _ _ (hc6) ?_; clear hK K)
    (refine fun w7 hc7 he7 => NoPanic.normal ?_)
    have hb5 : Below w.heap.size w w5 := bel_app (bel_trans (bel_alloc (bel_trans hb he3) _) he4) hg5 (fun g' hg' => ((own_lt HO.out) g' hg').1)
    have HO3 := Lib.hid (own_keep (own_keep hown5 he6) he7)
    clear hown5
    go_wp2
    exact ⟨⟨k + 1, q + 1, c2, A2, by omega, by omega, by go_num, rfl, by rw [HS.out]; exact HO3.out, (by (repeat (first | with_reducible exact Below.refl _ _ | with_reducible assumption | with_reducible apply bel_alloc | with_reducible apply bel_drew | with_reducible apply bel_drewN | ((with_reducible refine bel_set ?_ ?_); rotate_left; (simp <;> omega)) | (with_reducible refine bel_trans ?_ (by with_reducible assumption)))))⟩, by simp [intOf]; omega⟩
end

section
attribute [local go_sem ↓] Go.wp_at_zero Go.wp_at_succ
def posC (n h m : Nat) (c : C) : Nat := ((carry n h c.1 c.2 m).2.2.2 * n + (carry n h c.1 c.2 m).2.2.1).toNat
def orLc (n h m : Nat) (L : List C) : Nat := L.foldl (fun a c => a ||| 2 ^ posC n h m c) 0
theorem orLc_snoc (n h m : Nat) (L : List C) (c : C) : orLc n h m (L ++ [c]) = orLc n h m L ||| 2 ^ posC n h m c := by simp [orLc]
theorem orLc_take (n h m : Nat) (L : List C) (k : Nat) (hk : k < L.length) : orLc n h m (L.take (k + 1)) = orLc n h m (L.take k) ||| 2 ^ posC n h m L[k] := by
 rw [List.take_succ_eq_append_getElem hk, orLc_snoc]
theorem orLc_turn {n h m mask : Nat} (hp : ∀ i j, i < n * h → j < n * h → pos n h m i = pos n h m j → i = j) (hl : ∀ i, i < n * h → pos n h m i < n * h) (h36 : n * h ≤ 36) :
  ∀ k, k ≤ n * h → orLc n h m (plTo n mask k) = turnTo n h m mask k
 | 0, _ => rfl
 | k + 1, hk => by
  have ih := orLc_turn (mask := mask) hp hl h36 k (by omega)
  show orLc n h m (plTo n mask k ++ _) = _
  by_cases hb : mask.testBit k = true
  ·rw [if_pos hb, orLc_snoc, ih, turn_or hp hl h36 (by omega) hb]
   rfl
  ·rw [if_neg hb, List.append_nil, ih]
   show _ = turnTo n h m mask k + _
   rw [if_neg hb, Nat.add_zero]
theorem plTo_mem {n mask : Nat} {c : C} : ∀ {k}, c ∈ plTo n mask k → ∃ i, i < k ∧ c = (((i % n : Nat) : Int), ((i / n : Nat) : Int))
 | 0, h => by simp [plTo] at h
 | k + 1, h => by
  rcases List.mem_append.1 h with h | h
  ·obtain ⟨i, hi, e⟩ := plTo_mem h
   exact ⟨i, by omega, e⟩
  ·split at h
   ·simp only [List.mem_singleton] at h
    exact ⟨k, by omega, h⟩
   ·simp at h
theorem orLc_lt_aux {n h m : Nat} (N : Nat) : ∀ (L : List C) (a : Nat), a < 2 ^ N → (∀ c ∈ L, posC n h m c < N) → L.foldl (fun a c => a ||| 2 ^ posC n h m c) a < 2 ^ N
 | [], a, ha, _ => ha
 | c :: t, a, ha, hc => orLc_lt_aux N t _ (Nat.or_lt_two_pow ha (Nat.pow_lt_pow_right (by decide) (hc c (by simp)))) (fun d hd => hc d (by simp [hd]))
theorem orLc_lt {n h m N : Nat} {L : List C} (hc : ∀ c ∈ L, posC n h m c < N) : orLc n h m L < 2 ^ N := orLc_lt_aux N L 0 (Nat.pow_pos (by decide)) hc
theorem take_mem {L : List C} {k : Nat} {c : C} (h : c ∈ L.take k) : c ∈ L := List.mem_of_mem_take h
theorem carryMask_i (n : Nat) (A : Option Addr) (h c : Nat) (rows : List Int) (mask m : Nat) (w : World) (hr : Rd w A (vI rows)) (hl : rows.length = h) (hn : 1 ≤ n ∧ n ≤ 6) (hh : 1 ≤ h ∧ h ≤ 6) (hm : m < 8) (hg : goesM n h m = true) (hmask : mask < 2 ^ (n * h)) :
  Calls Tryz.prog 61 #[.agg #[.int .i64 (n : Int), .slice A h c], .int .i64 (mask : Int), .int .i64 (m : Int)] w (Ret w (.int .i64 (turnTo n h m mask (n * h) : Nat))) := by
 obtain ⟨hp1, hp2⟩ := pos_ok hn hh hm hg
 have h36 : n * h ≤ 6 * 6 := Nat.mul_le_mul hn.2 hh.2
 have hV := orLc_turn (mask := mask) hp2 hp1 (by omega) (n * h) (Nat.le_refl _)
 have HV := Lib.hid hV
 have HM := Lib.hid hmask
 have hN36 : n * h ≤ 36 := by omega
 have H36 := Lib.hid hN36
 have HP1 := Lib.hid hp1
 have hL : ∀ x ∈ plTo n mask (n * h), okQ ((n : Int), (h : Int), x.1, x.2) ∧ posC n h m x < n * h := by
  intro x hx
  obtain ⟨i, hi, rfl⟩ := plTo_mem hx
  exact ⟨grid_ok hn hh hi, hp1 i hi⟩
 have hlen := plTo_len n mask (n * h)
 have HLL := Lib.hid hL
 have HLEN := Lib.hid hlen
 clear hV hmask h36 hN36 hp1 hp2 hL hlen hl
 go_enter Tryz.func61, Tryz.ntmps61
 go_wp2_with fail
 refine (places_i n mask (n * h) _ hn H36.out HM.out).mono ?_
 rintro e w1 ⟨B, q, cq, rfl, ho, hb1⟩
 have hq : q = (plTo n mask (n * h)).length := by have := own_len ho; rw [vC_length] at this; omega
 generalize plTo n mask (n * h) = L at HV HLL HLEN ho hq
 have HQ := Lib.hid hq
 have hq36 : q ≤ 36 := by have := HLEN.out; have := H36.out; omega
 have hrd := Rd.of_own ho
 have HRD := Lib.hid hrd
 have hB1 := (Blk.new w 26 #[.int .i64 (n : Int), .slice A h c]).below hb1
 have HB1 := Lib.hid hB1
 have hr1 := (hr.alloc (.cells #[.int .i64 (n : Int), .slice A h c] 26)).below hb1
 clear ho hq hrd hB1
 go_wp2_with fail
 go_loopw [16, 7] (fun i t wr => ∃ k v : Nat, k ≤ q ∧ i = .int .i64 k ∧ t = .int .i64 v ∧ v = orLc n h m (L.take k) ∧ Below w1.heap.size w1 wr) (fun i _ _ => q - (intOf i).toNat)
 case atStart => exact ⟨0, 0, Nat.zero_le _, rfl, rfl, rfl, Below.refl _ _⟩
 case round =>
  obtain ⟨k, v, hk, rfl, rfl, hv, hb⟩ := hrel
  by_cases hlt : k < q
  ·have hk0 : (0 : Int) ≤ (k : Int) := by omega
   have hk1 : (k : Int) < (q : Int) := by omega
   have hkl : k < L.length := by rw [← HQ.out]; exact hlt
   have hB := HB1.out.below hb
   have d0 : wr.cell? ⟨w.heap.size, 0, none⟩ = some (.int .i64 (n : Int)) := by simpa using hB.cell 0
   have d1 : wr.cell? ⟨w.heap.size, 1, none⟩ = some (.slice A h c) := by simpa using hB.cell 1
   have hgw := hB.lt
   obtain ⟨g, off, rfl, hgl, c0, c1⟩ := RdC.at_ (HRD.out.below hb) hkl
   have hT := orLc_take n h m L k hkl
   obtain ⟨hok, hpl⟩ := HLL.out L[k] (List.getElem_mem hkl)
   obtain ⟨⟨x, y⟩, hxy⟩ : ∃ p, L[k] = p := ⟨_, rfl⟩
   rw [hxy] at c0 c1 hT hok hpl
   have HT := Lib.hid hT
   have HOK := Lib.hid hok
   have HPL := Lib.hid hpl
   have HV2 := Lib.hid hv
   clear hB hT hok hpl hv hxy
   have hpos := pos_int (m := m) HOK.out
   have hcs := carry_small HOK.out m
   have hcp : ∀ W : World, Calls Tryz.prog 118 #[.int .i64 (n : Int), .int .i64 (h : Int), .agg #[.int .i64 x, .int .i64 y], .int .i64 (m : Int)] W (Ret W (.agg #[.int .i64 (carry n h x y m).2.2.1, .int .i64 (carry n h x y m).2.2.2])) := fun W => carryPlace_i _ _ _ _ m W HOK.out hm
   have hposc : posC n h m (x, y) = ((carry n h x y m).2.2.2 * n + (carry n h x y m).2.2.1).toNat := rfl
   obtain ⟨⟨a', b', x', y'⟩, hq4⟩ : ∃ q, carry n h x y m = q := ⟨_, rfl⟩
   rw [hq4] at hpos hcs hcp hposc
   rw [← hposc] at hpos
   dsimp only at hcp
   have HCP := Lib.hid hcp
   have hjN := HPL.out
   have hT2 := HT.out
   have hvlt : v < 2 ^ 36 := by
    have h1 := orLc_lt (n := n) (h := h) (m := m) (N := n * h) (L := L.take k) (fun d hd => (HLL.out d (take_mem hd)).2)
    rw [← HV2.out] at h1
    exact Nat.lt_of_lt_of_le h1 (Nat.pow_le_pow_right (by decide) H36.out)
   rw [← HV2.out] at hT2
   have hj36 : posC n h m (x, y) < 36 := Nat.lt_of_lt_of_le hjN H36.out
   clear hjN HT HPL
   generalize posC n h m (x, y) = j at hpos hposc hj36 hT2
   obtain ⟨z, hz⟩ : ∃ z : Int, y' * (n : Int) = z := ⟨_, rfl⟩
   have hzj : z + x' = (j : Int) := by rw [← hz]; exact hpos
   have h2j : (2 : Nat) ^ j < 2 ^ 36 := Nat.pow_lt_pow_right (by decide) hj36
   obtain ⟨t, ht⟩ : ∃ t : Nat, 2 ^ j = t := ⟨_, rfl⟩
   have htI : (2 : Int) ^ j = (t : Int) := by rw [← ht]; simp
   rw [ht] at h2j hT2
   have hj64 : (j : Int) ≤ 64 := by omega
   have hj0 : (0 : Int) ≤ (j : Int) := by omega
   unfold okQ at hcs
   simp only at hcs
   obtain ⟨k1, k2, k3, k4, k5, k6, k7, k8⟩ := hcs
   have hn0 : (0 : Int) ≤ (n : Int) := by omega
   have hz0 : 0 ≤ z := by rw [← hz]; exact Int.mul_nonneg k7 hn0
   have hz36 : z ≤ 36 := by omega
   have HV63 : Hid (v < 2 ^ 63) := by show v < 2 ^ 63; omega
   have HT63 : Hid (t < 2 ^ 63) := by show t < 2 ^ 63; omega
   have hor : bits .or .i64 (v : Int) (t : Int) = ((v ||| t : Nat) : Int) := i64_or v t HV63.out HT63.out
   have HTT := Lib.hid hT2
   clear hq4 hpos hposc hcp hT2 hvlt
   go_wp2_with fail
   refine (HCP.out _).mono ?_
   rintro e w2 ⟨rfl, hb2⟩
   have y0 : w2.cell? ⟨w.heap.size, 0, none⟩ = some (.int .i64 (n : Int)) := keep_below hb2 (keep_alloc d0)
   have y1 : w2.cell? ⟨w.heap.size, 1, none⟩ = some (.slice A h c) := keep_below hb2 (keep_alloc d1)
   have hgw2 : w.heap.size < w2.heap.size := Nat.lt_of_lt_of_le hgw (by have := hb2.size; simp at this; omega)
   clear hor
   have hor : bits .or .i64 (v : Int) (t : Int) = ((v ||| t : Nat) : Int) := i64_or v t HV63.out HT63.out
   go_wp2_with fail
   exact ⟨⟨k + 1, v ||| t, by omega, by go_num, rfl, HTT.out.symm, (by (repeat (first | with_reducible exact Below.refl _ _ | with_reducible assumption | with_reducible apply bel_alloc | with_reducible apply bel_drew | with_reducible apply bel_drewN | ((with_reducible refine bel_set ?_ ?_); rotate_left; (simp <;> omega)) | (with_reducible refine bel_trans ?_ (by with_reducible assumption)))))⟩, by simp [intOf]; omega⟩
  ·have hkq : k = q := by omega
   have hkq2 : L.take k = L := List.take_of_length_le (by rw [← HQ.out]; omega)
   rw [hkq2] at hv
   have HV2 := Lib.hid (hv.trans HV.out)
   have hk1 : ¬ (k : Int) < (q : Int) := by omega
   clear hv hkq2
   go_wp2
   go_ret
   exact ⟨by rw [← HV2.out]; rfl, (by (repeat (first | with_reducible exact Below.refl _ _ | with_reducible assumption | with_reducible apply bel_alloc | with_reducible apply bel_drew | with_reducible apply bel_drewN | ((with_reducible refine bel_set ?_ ?_); rotate_left; (simp <;> omega)) | (with_reducible refine bel_trans ?_ (by with_reducible assumption)))))⟩
end

section
attribute [local go_sem ↓] Go.wp_at_zero Go.wp_at_succ
theorem hasInt_i (A : Option Addr) (n c : Nat) (xs : List Int) (x : Int) (w : World) (hr : Rd w A (vI xs)) (hl : xs.length = n) (hn : n ≤ 1099511627776) :
  Calls Tryz.prog 59 #[.slice A n c, .int .i64 x] w (Ret w (.bool (xs.any (· == x)))) := by
 have HL := Lib.hid hl
 clear hl
 go_enter Tryz.func59, Tryz.ntmps59
 go_wp2
 go_loopw [9] (fun i wr => ∃ k : Nat, k ≤ n ∧ i = .int .i64 k ∧ xs.any (· == x) = (xs.drop k).any (· == x) ∧ Below w.heap.size w wr) (fun i _ => n - (intOf i).toNat)
 case atStart => exact ⟨0, Nat.zero_le _, rfl, rfl, Below.refl _ _⟩
 case round =>
  obtain ⟨k, hk, rfl, hany, hb⟩ := hrel
  by_cases hlt : k < n
  ·have hkl : k < xs.length := by rw [HL.out]; exact hlt
   have hk0 : (0 : Int) ≤ (k : Int) := by omega
   have hk1 : (k : Int) < (n : Int) := by omega
   obtain ⟨g, off, rfl, hg, d1⟩ := RdI.at_ (hr.below hb) hkl
   rw [List.drop_eq_getElem_cons hkl, List.any_cons] at hany
   obtain ⟨y, hy⟩ : ∃ y, xs[k] = y := ⟨_, rfl⟩
   rw [hy] at hany d1
   cases hyx : (y == x) with
   | true =>
    rw [hyx, Bool.true_or] at hany
    have HA := Lib.hid hany
    clear hany hy
    go_wp2
    go_ret
    exact ⟨by rw [HA.out]; rfl, hb⟩
   | false =>
    rw [hyx, Bool.false_or] at hany
    have HA := Lib.hid hany
    clear hany hy
    go_wp2
    exact ⟨⟨k + 1, by omega, by go_num, HA.out, hb⟩, by simp [intOf]; omega⟩
  ·have hkn : k = n := by omega
   subst hkn
   rw [List.drop_of_length_le (by rw [HL.out]; omega)] at hany
   have HA := Lib.hid hany
   have hk1 : ¬ (k : Int) < (k : Int) := by omega
   clear hany
   go_wp2
   go_ret
   exact ⟨by rw [HA.out]; rfl, hb⟩
theorem l7Has_s (A : Option Addr) (n c : Nat) (xs : List Int) (x : Int) (w : World) (hr : Rd w A (vI xs)) (hl : xs.length = n) (hn : n ≤ 1099511627776) :
  Calls Tryz.prog 66 #[.slice A n c, .int .i64 x] w (Ret w (.bool (xs.any (· == x)))) := by
 have HL := Lib.hid hl
 clear hl
 go_enter Tryz.func66, Tryz.ntmps66
 go_wp2
 go_loopw [5] (fun i wr => ∃ k : Nat, k ≤ n ∧ i = .int .i64 k ∧ xs.any (· == x) = (xs.drop k).any (· == x) ∧ Below w.heap.size w wr) (fun i _ => n - (intOf i).toNat)
 case atStart => exact ⟨0, Nat.zero_le _, rfl, rfl, Below.refl _ _⟩
 case round =>
  obtain ⟨k, hk, rfl, hany, hb⟩ := hrel
  by_cases hlt : k < n
  ·have hkl : k < xs.length := by rw [HL.out]; exact hlt
   have hk0 : (0 : Int) ≤ (k : Int) := by omega
   have hk1 : (k : Int) < (n : Int) := by omega
   obtain ⟨g, off, rfl, hg, d1⟩ := RdI.at_ (hr.below hb) hkl
   rw [List.drop_eq_getElem_cons hkl, List.any_cons] at hany
   obtain ⟨y, hy⟩ : ∃ y, xs[k] = y := ⟨_, rfl⟩
   rw [hy] at hany d1
   cases hyx : (y == x) with
   | true =>
    rw [hyx, Bool.true_or] at hany
    have HA := Lib.hid hany
    clear hany hy
    go_wp2
    go_ret
    exact ⟨by rw [HA.out]; rfl, hb⟩
   | false =>
    rw [hyx, Bool.false_or] at hany
    have HA := Lib.hid hany
    clear hany hy
    go_wp2
    exact ⟨⟨k + 1, by omega, by go_num, HA.out, hb⟩, by simp [intOf]; omega⟩
  ·have hkn : k = n := by omega
   subst hkn
   rw [List.drop_of_length_le (by rw [HL.out]; omega)] at hany
   have HA := Lib.hid hany
   have hk1 : ¬ (k : Int) < (k : Int) := by omega
   clear hany
   go_wp2
   go_ret
   exact ⟨by rw [HA.out]; rfl, hb⟩
end

section
attribute [local go_sem ↓] Go.wp_at_zero Go.wp_at_succ
def keepM (n h mv m : Nat) : Bool := goesM n h m && (turnTo n h m mv (n * h) == mv)
def motTo (n h mv : Nat) : Nat → List Int
 | 0 => []
 | m + 1 => motTo n h mv m ++ (if keepM n h mv m then [(m : Int)] else [])
def motV (W : Int) (rows : List Int) : List Int := if isReg W rows then motTo W.toNat rows.length (maskV W rows) 8 else []
theorem own_mono3 {w : World} {base base' e size n c : Nat} {A : Option Addr} {xs : List Value} (h : w.ownsRow base e size (.slice A n c) n xs) (hb : base' ≤ base) : w.ownsRow base' e size (.slice A n c) n xs := by
 refine ⟨h.1, ?_⟩
 rcases h.2 with hn | ⟨g, cap, cur, hv, hg, hgg, rest⟩
 ·exact .inl hn
 ·exact .inr ⟨g, cap, cur, hv, Nat.le_trans hb hg, hgg, rest⟩
theorem motTo_len (n h mv : Nat) : ∀ m, (motTo n h mv m).length ≤ m
 | 0 => Nat.le_refl _
 | m + 1 => by
  have := motTo_len n h mv m
  show (motTo n h mv m ++ _).length ≤ _
  rw [List.length_append]
  split <;> simp <;> omega
theorem maskV_lt {n : Nat} {rows : List Int} (h : isReg (n : Int) rows = true) : maskV (n : Int) rows < 2 ^ (n * rows.length) := by
 obtain ⟨m, hm, _, _, _, _, hrow⟩ := isReg_yes h
 obtain rfl : n = m := by omega
 unfold maskV
 rw [if_pos h, Nat.mul_comm]
 exact mkTo_lt hrow rows.length (Nat.le_refl _)
theorem RegionMotions_i (W : Int) (A : Option Addr) (h c : Nat) (rows : List Int) (w : World) (hr : Rd w A (vI rows)) (hl : rows.length = h) :
  Calls Tryz.prog 12 #[.agg #[.int .i64 W, .slice A h c]] w (RetS w 3 1 (vI (motV W rows))) := by
 cases hv : isReg W rows with
 | false =>
  have HV : Hid (motV W rows = []) := by show motV W rows = []; unfold motV; rw [hv]; rfl
  have HL := Lib.hid hl
  have HF := Lib.hid hv
  clear hv hl
  go_enter Tryz.func12, Tryz.ntmps12
  go_wp2_with fail
  refine (IsRegion_i _ _ _ _ rows _ (hr.alloc _) HL.out).mono ?_
  rw [HF.out]
  rintro e w1 ⟨rfl, hb1⟩
  go_wp2_with fail
  go_ret
  exact ⟨none, 0, 0, rfl, by rw [HV.out]; exact own_nil _ _ _ _, (by (repeat (first | with_reducible exact Below.refl _ _ | with_reducible assumption | with_reducible apply bel_alloc | with_reducible apply bel_drew | with_reducible apply bel_drewN | ((with_reducible refine bel_set ?_ ?_); rotate_left; (simp <;> omega)) | (with_reducible refine bel_trans ?_ (by with_reducible assumption)))))⟩
 | true =>
  have HT := Lib.hid hv
  obtain ⟨n, rfl, hn1, hn6, hh1, hh6, hrow⟩ := isReg_yes hv
  have hmv := maskV_lt hv
  have hV : motV (n : Int) rows = motTo n rows.length (maskV n rows) 8 := by unfold motV; rw [hv]; rfl
  rw [hl] at hh1 hh6 hmv hV
  have HV := Lib.hid hV
  have HL := Lib.hid hl
  have HMV := Lib.hid hmv
  obtain ⟨mv, hmve⟩ : ∃ mv, maskV (n : Int) rows = mv := ⟨_, rfl⟩
  have HME := Lib.hid hmve
  clear hv hl hrow hmv hV hmve
  go_enter Tryz.func12, Tryz.ntmps12
  go_wp2_with fail
  refine (IsRegion_i _ _ _ _ rows _ (hr.alloc _) HL.out).mono ?_
  rw [HT.out]
  rintro e w1 ⟨rfl, hb1⟩
  have HB1 := Lib.hid ((Blk.new w 26 #[.int .i64 (n : Int), .slice A h c]).below hb1)
  have HR1 := Lib.hid ((hr.alloc (.cells #[.int .i64 (n : Int), .slice A h c] 26)).below hb1)
  have hb01 : Below w.heap.size w w1 := (by (repeat (first | with_reducible exact Below.refl _ _ | with_reducible assumption | with_reducible apply bel_alloc | with_reducible apply bel_drew | with_reducible apply bel_drewN | ((with_reducible refine bel_set ?_ ?_); rotate_left; (simp <;> omega)) | (with_reducible refine bel_trans ?_ (by with_reducible assumption)))))
  have hsz := hb01.size
  go_wp2_with fail
  go_loopw [8, 3] (fun i e wr => ∃ (m q cq : Nat) (B : Option Addr), m ≤ 8 ∧ q ≤ m ∧ i = .int .i64 m ∧ e = .slice B q cq ∧ wr.ownsRow w1.heap.size 3 1 (.slice B q cq) q (vI (motTo n h mv m)) ∧ Below w1.heap.size w1 wr) (fun i _ _ => 8 - (intOf i).toNat)
  case atStart => exact ⟨0, 0, 0, none, Nat.zero_le _, Nat.le_refl _, rfl, rfl, own_nil _ _ _ _, Below.refl _ _⟩
  case round =>
   obtain ⟨m, q, cq, B, hm, hqm, rfl, rfl, hown, hb⟩ := hrel
   have HO := Lib.hid hown
   clear hown
   by_cases hlt : m < 8
   ·have hm0 : (0 : Int) ≤ (m : Int) := by omega
    have hm1 : (m : Int) < 8 := by omega
    have hB := HB1.out.below hb
    have d0 : wr.cell? ⟨w.heap.size, 0, none⟩ = some (.int .i64 (n : Int)) := by simpa using hB.cell 0
    have d1 : wr.cell? ⟨w.heap.size, 1, none⟩ = some (.slice A h c) := by simpa using hB.cell 1
    have hgw := hB.lt
    have HRW := Lib.hid (HR1.out.below hb)
    have hstep : motTo n h mv (m + 1) = motTo n h mv m ++ (if keepM n h mv m then [(m : Int)] else []) := rfl
    clear hB
    have hbz := hb.size
    have KEEP : Hid (keepM n h mv m = true → motTo n h mv (m + 1) = motTo n h mv m ++ [(m : Int)]) := fun h => by rw [hstep, h]; rfl
    have SKIP : Hid (keepM n h mv m = false → motTo n h mv (m + 1) = motTo n h mv m) := fun h => by rw [hstep, h]; simp
    clear hstep
    cases hg : goesM n h m with
    | true =>
     have HG := Lib.hid hg
     have hk : keepM n h mv m = (turnTo n h m mv (n * h) == mv) := by unfold keepM; rw [hg]; rfl
     obtain ⟨t, ht⟩ : ∃ t, turnTo n h m mv (n * h) = t := ⟨_, rfl⟩
     rw [ht] at hk
     have HTT2 : Hid (((turnTo n h m mv (n * h) : Nat) : Int) = (t : Int)) := by show _ = _; rw [ht]
     have HMI : Hid (((maskV (n : Int) rows : Nat) : Int) = (mv : Int)) := by show _ = _; rw [HME.out]
     clear hg ht
     by_cases htm : t = mv
     ·have HK := Lib.hid (KEEP.out (by rw [hk, htm]; simp))
      have e1 : ((t : Int) == (mv : Int)) = true := by simp [htm]
      clear KEEP SKIP hk htm
      by_cases hp : m % 2 = 0
      ·have hp2 : ((m : Int) % 2 == 0) = true := by rw [beq_iff_eq]; omega
       have hp3 : (m : Int).tmod 2 = 0 := by rw [Int.tmod_eq_emod_of_nonneg hm0]; omega
       go_wp2_with fail
       (refine wp_region_below (by kernel_rfl) (by kernel_rfl) ?_; (repeat (first | go_big_quiet_skip | (refine quietV (v := ?_) (by rfl) rfl (fun w' hbw => ?_) ?_; rotate_left; ((try dsimp only at hbw); have hbc := (bcell hbw).1; have hbf := (bcell hbw).2; go_simp; first | done | with_reducible rfl | first | exact callsBI (mask_i _ _ _ _ rows _ (HRW.out.below hbw) HL.out HT.out) HMI.out hbw | exact callsBI (carryMask_i n _ h _ rows mv m _ (HRW.out.below hbw) HL.out ⟨hn1, hn6⟩ ⟨hh1, hh6⟩ hlt HG.out (by have := HMV.out; have := HME.out; omega)) HTT2.out hbw); simp only [sq1, sq2, sq3]))); refine wpQuiet_nil ?_; intro wq hbq)
       go_wp2_with (at_builtin; go_must (refine app_I _ rfl _ _ rfl w1.heap.size _ _ _ _ rfl ((own_keep HO.out hbq).alloc _) _ _ _ [(m : Int)] rfl (rd_newI _ _ _) rfl (by omega) (by have := hbq.size; simp; omega) ?_); intro D2 cp2 w8 ho8 hg8 hat8; have HO8 := Lib.hid ho8; have HG8 := Lib.hid hg8; clear ho8 hg8 hat8)
       exact ⟨⟨m + 1, q + 1, cp2, D2, by omega, by omega, by go_num, rfl, by rw [HK.out]; exact HO8.out, bel_app (bel_alloc (bel_trans hb hbq) _) HG8.out (fun g' hg1 => ((own_lt HO.out) g' hg1).1)⟩, by simp [intOf]; omega⟩
      ·have hnh : (n : Int) = (h : Int) := by have := HG.out; unfold goesM at this; simp only [Bool.or_eq_true, beq_iff_eq] at this; omega
       have hp2 : ((m : Int) % 2 == 0) = false := by rw [beq_eq_false_iff_ne]; omega
       have hp3 : (m : Int).tmod 2 = 1 := by rw [Int.tmod_eq_emod_of_nonneg hm0]; omega
       have hp4 : m % 2 = 1 := by omega
       have hnh2 : ((n : Int) == (h : Int)) = true := by rw [beq_iff_eq]; exact hnh
       have HNH := Lib.hid hnh
       clear hp hnh
       go_wp2_with fail
       (refine wp_region_below (by kernel_rfl) (by kernel_rfl) ?_; (repeat (first | go_big_quiet_skip | (refine quietV (v := ?_) (by rfl) rfl (fun w' hbw => ?_) ?_; rotate_left; ((try dsimp only at hbw); have hbc := (bcell hbw).1; have hbf := (bcell hbw).2; go_simp; first | done | with_reducible rfl | first | exact callsBI (mask_i _ _ _ _ rows _ (HRW.out.below hbw) HL.out HT.out) HMI.out hbw | exact callsBI (carryMask_i n _ h _ rows mv m _ (HRW.out.below hbw) HL.out ⟨hn1, hn6⟩ ⟨hh1, hh6⟩ hlt HG.out (by have := HMV.out; have := HME.out; omega)) HTT2.out hbw); simp only [sq1, sq2, sq3]))); refine wpQuiet_nil ?_; intro wq hbq)
       go_wp2_with (at_builtin; go_must (refine app_I _ rfl _ _ rfl w1.heap.size _ _ _ _ rfl ((own_keep HO.out hbq).alloc _) _ _ _ [(m : Int)] rfl (rd_newI _ _ _) rfl (by omega) (by have := hbq.size; simp; omega) ?_); intro D2 cp2 w8 ho8 hg8 hat8; have HO8 := Lib.hid ho8; have HG8 := Lib.hid hg8; clear ho8 hg8 hat8)
       exact ⟨⟨m + 1, q + 1, cp2, D2, by omega, by omega, by go_num, rfl, by rw [HK.out]; exact HO8.out, bel_app (bel_alloc (bel_trans hb hbq) _) HG8.out (fun g' hg1 => ((own_lt HO.out) g' hg1).1)⟩, by simp [intOf]; omega⟩
     ·have HK := Lib.hid (SKIP.out (by rw [hk]; simpa using htm))
      have e1 : ((t : Int) == (mv : Int)) = false := by rw [beq_eq_false_iff_ne]; omega
      clear KEEP SKIP hk htm
      by_cases hp : m % 2 = 0
      ·have hp2 : ((m : Int) % 2 == 0) = true := by rw [beq_iff_eq]; omega
       have hp3 : (m : Int).tmod 2 = 0 := by rw [Int.tmod_eq_emod_of_nonneg hm0]; omega
       go_wp2_with fail
       (refine wp_region_below (by kernel_rfl) (by kernel_rfl) ?_; (repeat (first | go_big_quiet_skip | (refine quietV (v := ?_) (by rfl) rfl (fun w' hbw => ?_) ?_; rotate_left; ((try dsimp only at hbw); have hbc := (bcell hbw).1; have hbf := (bcell hbw).2; go_simp; first | done | with_reducible rfl | first | exact callsBI (mask_i _ _ _ _ rows _ (HRW.out.below hbw) HL.out HT.out) HMI.out hbw | exact callsBI (carryMask_i n _ h _ rows mv m _ (HRW.out.below hbw) HL.out ⟨hn1, hn6⟩ ⟨hh1, hh6⟩ hlt HG.out (by have := HMV.out; have := HME.out; omega)) HTT2.out hbw); simp only [sq1, sq2, sq3]))); refine wpQuiet_nil ?_; intro wq hbq)
       go_wp2_with fail
       exact ⟨⟨m + 1, q, cq, B, by omega, by omega, by go_num, rfl, by rw [HK.out]; exact own_keep HO.out hbq, (by (repeat (first | with_reducible exact Below.refl _ _ | with_reducible assumption | with_reducible apply bel_alloc | with_reducible apply bel_drew | with_reducible apply bel_drewN | ((with_reducible refine bel_set ?_ ?_); rotate_left; (simp <;> omega)) | (with_reducible refine bel_trans ?_ (by with_reducible assumption)))))⟩, by simp [intOf]; omega⟩
      ·have hnh : (n : Int) = (h : Int) := by have := HG.out; unfold goesM at this; simp only [Bool.or_eq_true, beq_iff_eq] at this; omega
       have hp2 : ((m : Int) % 2 == 0) = false := by rw [beq_eq_false_iff_ne]; omega
       have hp3 : (m : Int).tmod 2 = 1 := by rw [Int.tmod_eq_emod_of_nonneg hm0]; omega
       have hp4 : m % 2 = 1 := by omega
       have hnh2 : ((n : Int) == (h : Int)) = true := by rw [beq_iff_eq]; exact hnh
       have HNH := Lib.hid hnh
       clear hp hnh
       go_wp2_with fail
       (refine wp_region_below (by kernel_rfl) (by kernel_rfl) ?_; (repeat (first | go_big_quiet_skip | (refine quietV (v := ?_) (by rfl) rfl (fun w' hbw => ?_) ?_; rotate_left; ((try dsimp only at hbw); have hbc := (bcell hbw).1; have hbf := (bcell hbw).2; go_simp; first | done | with_reducible rfl | first | exact callsBI (mask_i _ _ _ _ rows _ (HRW.out.below hbw) HL.out HT.out) HMI.out hbw | exact callsBI (carryMask_i n _ h _ rows mv m _ (HRW.out.below hbw) HL.out ⟨hn1, hn6⟩ ⟨hh1, hh6⟩ hlt HG.out (by have := HMV.out; have := HME.out; omega)) HTT2.out hbw); simp only [sq1, sq2, sq3]))); refine wpQuiet_nil ?_; intro wq hbq)
       go_wp2_with fail
       exact ⟨⟨m + 1, q, cq, B, by omega, by omega, by go_num, rfl, by rw [HK.out]; exact own_keep HO.out hbq, (by (repeat (first | with_reducible exact Below.refl _ _ | with_reducible assumption | with_reducible apply bel_alloc | with_reducible apply bel_drew | with_reducible apply bel_drewN | ((with_reducible refine bel_set ?_ ?_); rotate_left; (simp <;> omega)) | (with_reducible refine bel_trans ?_ (by with_reducible assumption)))))⟩, by simp [intOf]; omega⟩
    | false =>
     have hk : keepM n h mv m = false := by unfold keepM; rw [hg]; rfl
     have HK := Lib.hid (SKIP.out hk)
     unfold goesM at hg
     simp only [Bool.or_eq_false_iff, beq_eq_false_iff_ne, ne_eq] at hg
     obtain ⟨hp, hnh0⟩ := hg
     have hnh : ((n : Int) == (h : Int)) = false := by rw [beq_eq_false_iff_ne]; omega
     clear KEEP SKIP hk hnh0
     have hp2 : ((m : Int) % 2 == 0) = false := by rw [beq_eq_false_iff_ne]; omega
     have hp3 : (m : Int).tmod 2 = 1 := by rw [Int.tmod_eq_emod_of_nonneg hm0]; omega
     have hp4 : m % 2 = 1 := by omega
     clear hp
     go_wp2_with fail
     (refine wp_region_below (by kernel_rfl) (by kernel_rfl) ?_; (repeat (first | go_big_quiet_skip | (refine quietV (v := ?_) (by rfl) rfl (fun w' hbw => ?_) ?_; rotate_left; ((try dsimp only at hbw); have hbc := (bcell hbw).1; have hbf := (bcell hbw).2; go_simp; first | done | with_reducible rfl | fail); simp only [sq1, sq2, sq3]))); refine wpQuiet_nil ?_; intro wq hbq)
     go_wp2_with fail
     exact ⟨⟨m + 1, q, cq, B, by omega, by omega, by go_num, rfl, by rw [HK.out]; exact own_keep HO.out hbq, (by (repeat (first | with_reducible exact Below.refl _ _ | with_reducible assumption | with_reducible apply bel_alloc | with_reducible apply bel_drew | with_reducible apply bel_drewN | ((with_reducible refine bel_set ?_ ?_); rotate_left; (simp <;> omega)) | (with_reducible refine bel_trans ?_ (by with_reducible assumption)))))⟩, by simp [intOf]; omega⟩
   ·have hm8 : m = 8 := by omega
    have hm1 : ¬ (m : Int) < 8 := by omega
    have HO2 : Hid (wr.ownsRow w1.heap.size 3 1 (.slice B q cq) q (vI (motV n rows))) := by show wr.ownsRow _ _ _ _ _ _; rw [HV.out, HME.out, ← hm8]; exact HO.out
    clear hm8
    go_wp2
    go_ret
    exact ⟨_, _, _, rfl, own_mono3 HO2.out hsz, (by (repeat (first | with_reducible exact Below.refl _ _ | with_reducible assumption | with_reducible apply bel_alloc | with_reducible apply bel_drew | with_reducible apply bel_drewN | ((with_reducible refine bel_set ?_ ?_); rotate_left; (simp <;> omega)) | (with_reducible refine bel_trans ?_ (by with_reducible assumption)))))⟩
end

section
attribute [local go_sem ↓] Go.wp_at_zero Go.wp_at_succ
theorem RegionMotions_s (W : Int) (A : Option Addr) (h c : Nat) (rows : List Int) (w : World) (hr : Rd w A (vI rows)) (hl : rows.length = h) :
  Calls Tryz.prog 13 #[.agg #[.int .i64 W, .slice A h c]] w (RetS w 3 1 (vI (motV W rows))) := by
 have hini : ((w.alloc (.cells #[.int .i64 W, .slice A h c] 26)).alloc (.cells #[] 3)).ownsRow (w.heap.size + 1) 3 1 (.slice (some ⟨w.heap.size + 1, 0, none⟩) 0 0) 0 [] := by
  have := own_new (w.alloc (.cells #[.int .i64 W, .slice A h c] 26)) 3 1 0 #[] rfl (by simp [maxLen]) (base := w.heap.size + 1) (by simp)
  simpa using this
 have HI := Lib.hid hini
 have HB0 := Lib.hid ((Blk.new w 26 #[.int .i64 W, .slice A h c]).alloc (.cells #[] 3))
 have HR0 := Lib.hid hr
 have HL := Lib.hid hl
 clear hini hr
 cases hv : isReg W rows with
 | false =>
  have HV : Hid (motV W rows = []) := by show motV W rows = []; unfold motV; rw [hv]; rfl
  have HF := Lib.hid hv
  clear hv hl
  go_enter Tryz.func13, Tryz.ntmps13
  go_wp2
  go_loopw [4, 3] (fun i e wr => i = .int .i64 0 ∧ e = .slice (some ⟨w.heap.size + 1, 0, none⟩) 0 0 ∧ wr = (w.alloc (.cells #[.int .i64 W, .slice A h c] 26)).alloc (.cells #[] 3)) (fun _ _ _ => 0)
  case atStart => exact ⟨rfl, by simp, rfl⟩
  case round =>
   obtain ⟨rfl, rfl, rfl⟩ := hrel
   go_wp2_with fail
   refine (IsRegion_s _ _ _ _ rows _ ((HR0.out.alloc _).alloc _) HL.out).mono ?_
   rw [HF.out]
   rintro e w1 ⟨rfl, hb1⟩
   have HO := Lib.hid (own_mono3 (own_keep HI.out hb1) (Nat.le_succ w.heap.size))
   go_wp2_with fail
   go_ret
   exact ⟨_, _, _, rfl, by rw [HV.out]; exact HO.out, (by (repeat (first | with_reducible exact Below.refl _ _ | with_reducible assumption | with_reducible apply bel_alloc | with_reducible apply bel_drew | with_reducible apply bel_drewN | ((with_reducible refine bel_set ?_ ?_); rotate_left; (simp <;> omega)) | (with_reducible refine bel_trans ?_ (by with_reducible assumption)))))⟩
 | true =>
  have HT := Lib.hid hv
  obtain ⟨n, rfl, hn1, hn6, hh1, hh6, hrow⟩ := isReg_yes hv
  have hmv := maskV_lt hv
  have hV : motV (n : Int) rows = motTo n rows.length (maskV n rows) 8 := by unfold motV; rw [hv]; rfl
  rw [hl] at hh1 hh6 hmv hV
  have HV := Lib.hid hV
  have HMV := Lib.hid hmv
  obtain ⟨mv, hmve⟩ : ∃ mv, maskV (n : Int) rows = mv := ⟨_, rfl⟩
  have HME := Lib.hid hmve
  clear hv hl hrow hmv hV hmve
  go_enter Tryz.func13, Tryz.ntmps13
  go_wp2
  go_loopw [4, 3] (fun i e wr => ∃ (m q cq : Nat) (B : Option Addr), m ≤ 8 ∧ q ≤ m ∧ i = .int .i64 m ∧ e = .slice B q cq ∧ wr.ownsRow (w.heap.size + 1) 3 1 (.slice B q cq) q (vI (motTo n h mv m)) ∧ Below w.heap.size w wr ∧ Blk wr w.heap.size 26 #[.int .i64 (n : Int), .slice A h c]) (fun i _ _ => 8 - (intOf i).toNat)
  case atStart => exact ⟨0, 0, 0, _, Nat.zero_le _, Nat.le_refl _, rfl, by simp, HI.out, (by (repeat (first | with_reducible exact Below.refl _ _ | with_reducible assumption | with_reducible apply bel_alloc | with_reducible apply bel_drew | with_reducible apply bel_drewN | ((with_reducible refine bel_set ?_ ?_); rotate_left; (simp <;> omega)) | (with_reducible refine bel_trans ?_ (by with_reducible assumption))))), HB0.out⟩
  case round =>
   obtain ⟨m, q, cq, B, hm, hqm, rfl, rfl, hown, hb, hB⟩ := hrel
   have HO := Lib.hid hown
   have d0 : wr.cell? ⟨w.heap.size, 0, none⟩ = some (.int .i64 (n : Int)) := by simpa using hB.cell 0
   have d1 : wr.cell? ⟨w.heap.size, 1, none⟩ = some (.slice A h c) := by simpa using hB.cell 1
   have hgw := hB.lt
   have HRW := Lib.hid (HR0.out.below hb)
   have HB := Lib.hid hB
   have HOB : Hid (∀ g, ob B = some g → w.heap.size + 1 ≤ g) := fun g e => (own_lt hown g e).1
   clear hown hB
   by_cases hlt : m < 8
   ·have hm0 : (0 : Int) ≤ (m : Int) := by omega
    have hm1 : (m : Int) < 8 := by omega
    have hstep : motTo n h mv (m + 1) = motTo n h mv m ++ (if keepM n h mv m then [(m : Int)] else []) := rfl
    have KEEP : Hid (keepM n h mv m = true → motTo n h mv (m + 1) = motTo n h mv m ++ [(m : Int)]) := fun h => by rw [hstep, h]; rfl
    have SKIP : Hid (keepM n h mv m = false → motTo n h mv (m + 1) = motTo n h mv m) := fun h => by rw [hstep, h]; simp
    clear hstep
    have HMI : Hid (((maskV (n : Int) rows : Nat) : Int) = (mv : Int)) := by show _ = _; rw [HME.out]
    have hbz := hb.size
    cases hg : goesM n h m with
    | true =>
     have HG := Lib.hid hg
     have hk : keepM n h mv m = (turnTo n h m mv (n * h) == mv) := by unfold keepM; rw [hg]; rfl
     obtain ⟨t, ht⟩ : ∃ t, turnTo n h m mv (n * h) = t := ⟨_, rfl⟩
     rw [ht] at hk
     have HTT := Lib.hid ht
     have hmv62 : mv < 2 ^ 62 := by
      have h1 := HMV.out
      rw [HME.out] at h1
      have h36 : n * h ≤ 6 * 6 := Nat.mul_le_mul hn6 hh6
      exact Nat.lt_of_lt_of_le h1 (Nat.pow_le_pow_right (by omega) (by omega))
     have HM62 := Lib.hid hmv62
     clear hg ht hmv62
     by_cases htm : t = mv
     ·have HK := Lib.hid (KEEP.out (by rw [hk, htm]; simp))
      have e1 : ((t : Int) == (mv : Int)) = true := by simp [htm]
      clear KEEP SKIP hk htm
      go_wp2_with fail
      refine (IsRegion_s _ _ _ _ rows _ HRW.out HL.out).mono ?_
      rw [HT.out]
      rintro e w1 ⟨rfl, hb1⟩
      have hB1 := HB.out.below hb1
      have f0 : w1.cell? ⟨w.heap.size, 0, none⟩ = some (.int .i64 (n : Int)) := by simpa using hB1.cell 0
      have f1 : w1.cell? ⟨w.heap.size, 1, none⟩ = some (.slice A h c) := by simpa using hB1.cell 1
      have hgw1 := hB1.lt
      clear d0 d1 hB1
      go_wp2_with fail
      (refine wp_region_below (by kernel_rfl) (by kernel_rfl) ?_; (repeat (first | go_big_quiet_skip | (refine quietV (v := ?_) (by rfl) rfl (fun w' hbw => ?_) ?_; rotate_left; ((try dsimp only at hbw); have hbc := (bcell hbw).1; have hbf := (bcell hbw).2; go_simp; first | done | with_reducible rfl | first | exact callsBI (MaskOf_s _ _ _ _ rows _ ((HRW.out.below hb1).below hbw) HL.out) HMI.out hbw | exact callsB (v := .tuple #[.int .i64 (t : Int), .bool true]) (by rw [← HTT.out]; exact l23Turn_s n A h c rows mv m _ ((HRW.out.below hb1).below hbw) HL.out ⟨hn1, hn6⟩ ⟨hh1, hh6⟩ hlt HG.out HM62.out) hbw); simp only [sq1, sq2, sq3]))); refine wpQuiet_nil ?_; intro wq hbq)
      have hBq := (HB.out.below hb1).below hbq
      have k0 : wq.cell? ⟨w.heap.size, 0, none⟩ = some (.int .i64 (n : Int)) := by simpa using hBq.cell 0
      have k1 : wq.cell? ⟨w.heap.size, 1, none⟩ = some (.slice A h c) := by simpa using hBq.cell 1
      have hgwq := hBq.lt
      clear f0 f1 hBq
      go_wp2_with fail
      refine (MaskOf_s _ _ _ _ rows _ ((HRW.out.below hb1).below hbq) HL.out).mono ?_
      rw [HME.out]
      rintro e w2 ⟨rfl, hb2⟩
      have hb3 : Below w.heap.size w w2 := (by (repeat (first | with_reducible exact Below.refl _ _ | with_reducible assumption | with_reducible apply bel_alloc | with_reducible apply bel_drew | with_reducible apply bel_drewN | ((with_reducible refine bel_set ?_ ?_); rotate_left; (simp <;> omega)) | (with_reducible refine bel_trans ?_ (by with_reducible assumption)))))
      clear k0 k1
      go_wp2_with (at_builtin; go_must (refine app_I _ rfl _ _ rfl (w.heap.size + 1) _ _ _ _ rfl ((own_keep (own_keep (own_keep HO.out hb1) hbq) hb2).alloc _) _ _ _ [(m : Int)] rfl (rd_newI _ _ _) rfl (by omega) (by have := hb1.size; have := hbq.size; have := hb2.size; simp; omega) ?_); intro D2 cp2 w8 ho8 hg8 hat8; have HO8 := Lib.hid ho8; have HG8 := Lib.hid hg8; clear ho8 hg8 hat8)
      exact ⟨⟨m + 1, q + 1, cp2, D2, by omega, by omega, by go_num, rfl, by rw [HK.out]; exact HO8.out, bel_app (bel_alloc hb3 _) HG8.out (fun g' hg1 => by have := HOB.out g' hg1; omega),
       (((HB.out.below hb1).below hbq).below hb2).alloc _ |>.grown HG8.out (fun e => by have := HOB.out _ e.symm; omega)⟩, by simp [intOf]; omega⟩
     ·have HK := Lib.hid (SKIP.out (by rw [hk]; simpa using htm))
      have e1 : ((t : Int) == (mv : Int)) = false := by rw [beq_eq_false_iff_ne]; omega
      clear KEEP SKIP hk htm
      go_wp2_with fail
      refine (IsRegion_s _ _ _ _ rows _ HRW.out HL.out).mono ?_
      rw [HT.out]
      rintro e w1 ⟨rfl, hb1⟩
      have hB1 := HB.out.below hb1
      have f0 : w1.cell? ⟨w.heap.size, 0, none⟩ = some (.int .i64 (n : Int)) := by simpa using hB1.cell 0
      have f1 : w1.cell? ⟨w.heap.size, 1, none⟩ = some (.slice A h c) := by simpa using hB1.cell 1
      have hgw1 := hB1.lt
      clear d0 d1 hB1
      go_wp2_with fail
      (refine wp_region_below (by kernel_rfl) (by kernel_rfl) ?_; (repeat (first | go_big_quiet_skip | (refine quietV (v := ?_) (by rfl) rfl (fun w' hbw => ?_) ?_; rotate_left; ((try dsimp only at hbw); have hbc := (bcell hbw).1; have hbf := (bcell hbw).2; go_simp; first | done | with_reducible rfl | first | exact callsBI (MaskOf_s _ _ _ _ rows _ ((HRW.out.below hb1).below hbw) HL.out) HMI.out hbw | exact callsB (v := .tuple #[.int .i64 (t : Int), .bool true]) (by rw [← HTT.out]; exact l23Turn_s n A h c rows mv m _ ((HRW.out.below hb1).below hbw) HL.out ⟨hn1, hn6⟩ ⟨hh1, hh6⟩ hlt HG.out HM62.out) hbw); simp only [sq1, sq2, sq3]))); refine wpQuiet_nil ?_; intro wq hbq)
      have hBq := (HB.out.below hb1).below hbq
      have k0 : wq.cell? ⟨w.heap.size, 0, none⟩ = some (.int .i64 (n : Int)) := by simpa using hBq.cell 0
      have k1 : wq.cell? ⟨w.heap.size, 1, none⟩ = some (.slice A h c) := by simpa using hBq.cell 1
      have hgwq := hBq.lt
      clear f0 f1 hBq
      go_wp2_with fail
      refine (MaskOf_s _ _ _ _ rows _ ((HRW.out.below hb1).below hbq) HL.out).mono ?_
      rw [HME.out]
      rintro e w2 ⟨rfl, hb2⟩
      have hb3 : Below w.heap.size w w2 := (by (repeat (first | with_reducible exact Below.refl _ _ | with_reducible assumption | with_reducible apply bel_alloc | with_reducible apply bel_drew | with_reducible apply bel_drewN | ((with_reducible refine bel_set ?_ ?_); rotate_left; (simp <;> omega)) | (with_reducible refine bel_trans ?_ (by with_reducible assumption)))))
      clear k0 k1
      go_wp2_with fail
      exact ⟨⟨m + 1, q, cq, B, by omega, by omega, by go_num, rfl, by rw [HK.out]; exact own_keep (own_keep (own_keep HO.out hb1) hbq) hb2, hb3, ((HB.out.below hb1).below hbq).below hb2⟩, by simp [intOf]; omega⟩
    | false =>
     have HG := Lib.hid hg
     have hk : keepM n h mv m = false := by unfold keepM; rw [hg]; rfl
     have HK := Lib.hid (SKIP.out hk)
     clear KEEP SKIP hk hg
     go_wp2_with fail
     refine (IsRegion_s _ _ _ _ rows _ HRW.out HL.out).mono ?_
     rw [HT.out]
     rintro e w1 ⟨rfl, hb1⟩
     have hB1 := HB.out.below hb1
     have f0 : w1.cell? ⟨w.heap.size, 0, none⟩ = some (.int .i64 (n : Int)) := by simpa using hB1.cell 0
     have f1 : w1.cell? ⟨w.heap.size, 1, none⟩ = some (.slice A h c) := by simpa using hB1.cell 1
     have hgw1 := hB1.lt
     clear d0 d1 hB1
     go_wp2_with fail
     (refine wp_region_below (by kernel_rfl) (by kernel_rfl) ?_; (repeat (first | go_big_quiet_skip | (refine quietV (v := ?_) (by rfl) rfl (fun w' hbw => ?_) ?_; rotate_left; ((try dsimp only at hbw); have hbc := (bcell hbw).1; have hbf := (bcell hbw).2; go_simp; first | done | with_reducible rfl | first | exact callsBI (MaskOf_s _ _ _ _ rows _ ((HRW.out.below hb1).below hbw) HL.out) HMI.out hbw | exact callsB (v := .tuple #[.int .i64 0, .bool false]) (l23Turn_no n _ h _ mv m _ ⟨hn1, hn6⟩ ⟨hh1, hh6⟩ hlt HG.out) hbw); simp only [sq1, sq2, sq3]))); refine wpQuiet_nil ?_; intro wq hbq)
     go_wp2_with fail
     exact ⟨⟨m + 1, q, cq, B, by omega, by omega, by go_num, rfl, by rw [HK.out]; exact own_keep (own_keep HO.out hb1) hbq, (by (repeat (first | with_reducible exact Below.refl _ _ | with_reducible assumption | with_reducible apply bel_alloc | with_reducible apply bel_drew | with_reducible apply bel_drewN | ((with_reducible refine bel_set ?_ ?_); rotate_left; (simp <;> omega)) | (with_reducible refine bel_trans ?_ (by with_reducible assumption))))), (HB.out.below hb1).below hbq⟩, by simp [intOf]; omega⟩
   ·have hm8 : m = 8 := by omega
    have hm1 : ¬ (m : Int) < 8 := by omega
    have HO2 : Hid (wr.ownsRow (w.heap.size + 1) 3 1 (.slice B q cq) q (vI (motV n rows))) := by show wr.ownsRow _ _ _ _ _ _; rw [HV.out, HME.out, ← hm8]; exact HO.out
    clear hm8
    go_wp2
    go_ret
    exact ⟨_, _, _, rfl, own_mono3 HO2.out (Nat.le_succ _), hb⟩
end

section
attribute [local go_sem ↓] Go.wp_at_zero Go.wp_at_succ
def okMask (W : Int) (rows : List Int) (x : Int) : Bool := decide (0 ≤ x) && inM x.toNat (maskV W rows)
theorem maskV_62 {W : Int} {rows : List Int} (h : isReg W rows = true) : maskV W rows < 2 ^ 36 := by
 obtain ⟨n, rfl, hn1, hn6, hh1, hh6, _⟩ := isReg_yes h
 have h36 : n * rows.length ≤ 6 * 6 := Nat.mul_le_mul hn6 hh6
 exact Nat.lt_of_lt_of_le (maskV_lt h) (Nat.pow_le_pow_right (by omega) (by omega))
theorem maskV_lt2 {W : Int} {rows : List Int} (h : isReg W rows = true) : maskV W rows < 2 ^ (W.toNat * rows.length) := by
 obtain ⟨n, rfl, _⟩ := isReg_yes h
 exact maskV_lt h
def tmOk (W : Int) (rows : List Int) (x m : Int) : Bool := (motV W rows).any (· == m) && okMask W rows x
def tmV (W : Int) (rows : List Int) (x m : Int) : Int := if tmOk W rows x m then (turnTo W.toNat rows.length m.toNat x.toNat (W.toNat * rows.length) : Nat) else 0
theorem motTo_mem {n h mv : Nat} : ∀ {k : Nat} {x : Int}, x ∈ motTo n h mv k → ∃ m : Nat, m < k ∧ x = (m : Int) ∧ goesM n h m = true
 | 0, x, hx => by simp [motTo] at hx
 | k + 1, x, hx => by
  unfold motTo at hx
  rcases List.mem_append.1 hx with h1 | h1
  ·obtain ⟨m, a, b, c⟩ := motTo_mem h1
   exact ⟨m, by omega, b, c⟩
  ·split at h1
   ·next hk =>
    simp only [List.mem_singleton] at h1
    unfold keepM at hk
    rw [Bool.and_eq_true] at hk
    exact ⟨k, by omega, h1, hk.1⟩
   ·simp at h1
theorem motV_any {W : Int} {rows : List Int} {m : Int} (h : (motV W rows).any (· == m) = true) : isReg W rows = true ∧ ∃ k : Nat, k < 8 ∧ m = (k : Int) ∧ goesM W.toNat rows.length k = true := by
 unfold motV at h
 cases hv : isReg W rows with
 | false => rw [hv] at h; simp at h
 | true =>
  rw [hv, if_pos rfl, List.any_eq_true] at h
  obtain ⟨x, hx, he⟩ := h
  rw [beq_iff_eq] at he
  subst he
  exact ⟨rfl, motTo_mem hx⟩
theorem motV_len (W : Int) (rows : List Int) : (motV W rows).length ≤ 8 := by
 unfold motV
 split
 ·exact motTo_len _ _ _ 8
 ·simp
theorem isMask_i (W : Int) (A : Option Addr) (h c : Nat) (rows : List Int) (x : Int) (w : World) (hr : Rd w A (vI rows)) (hl : rows.length = h) (hv : isReg W rows = true) (hx : x < 9223372036854775808) :
  Calls Tryz.prog 60 #[.agg #[.int .i64 W, .slice A h c], .int .i64 x] w (Ret w (.bool (okMask W rows x))) := by
 have HL := Lib.hid hl
 have HT := Lib.hid hv
 have hm62 := maskV_62 hv
 clear hl hv
 by_cases h0 : 0 ≤ x
 ·obtain ⟨k, rfl⟩ : ∃ k : Nat, x = (k : Int) := ⟨x.toNat, by omega⟩
  obtain ⟨v, hve⟩ : ∃ v, maskV W rows = v := ⟨_, rfl⟩
  have hV : okMask W rows (k : Int) = inM k v := by unfold okMask; rw [hve, decide_eq_true h0]; rfl
  rw [hve] at hm62
  have hand := i64_andNot k v (by omega) (by omega)
  obtain ⟨t, ht⟩ : ∃ t, k - (k &&& v) = t := ⟨_, rfl⟩
  rw [ht] at hand
  have hti := sub_zero_iff k v
  rw [ht] at hti
  have hge : (k : Int) ≥ 0 := h0
  have HVE := Lib.hid hve
  cases hi : inM k v with
  | true =>
   rw [hi] at hV hti
   have HV := Lib.hid hV
   have ht0 : ((t : Int) == 0) = true := by have := hti.2 rfl; simp [this]
   clear hV hti ht hi hm62 hve
   go_enter Tryz.func60, Tryz.ntmps60
   go_wp2_with fail
   refine (mask_i _ _ _ _ rows _ (hr.alloc _) HL.out HT.out).mono ?_
   rw [HVE.out]
   rintro e w1 ⟨rfl, hb1⟩
   go_wp2_with fail
   go_ret
   exact ⟨by rw [HV.out]; rfl, (by (repeat (first | with_reducible exact Below.refl _ _ | with_reducible assumption | with_reducible apply bel_alloc | with_reducible apply bel_drew | with_reducible apply bel_drewN | ((with_reducible refine bel_set ?_ ?_); rotate_left; (simp <;> omega)) | (with_reducible refine bel_trans ?_ (by with_reducible assumption)))))⟩
  | false =>
   rw [hi] at hV hti
   have HV := Lib.hid hV
   have ht0 : ((t : Int) == 0) = false := by rw [beq_eq_false_iff_ne]; intro h; exact absurd (hti.1 (by omega)) (by decide)
   clear hV hti ht hi hm62 hve
   go_enter Tryz.func60, Tryz.ntmps60
   go_wp2_with fail
   refine (mask_i _ _ _ _ rows _ (hr.alloc _) HL.out HT.out).mono ?_
   rw [HVE.out]
   rintro e w1 ⟨rfl, hb1⟩
   go_wp2_with fail
   go_ret
   exact ⟨by rw [HV.out]; rfl, (by (repeat (first | with_reducible exact Below.refl _ _ | with_reducible assumption | with_reducible apply bel_alloc | with_reducible apply bel_drew | with_reducible apply bel_drewN | ((with_reducible refine bel_set ?_ ?_); rotate_left; (simp <;> omega)) | (with_reducible refine bel_trans ?_ (by with_reducible assumption)))))⟩
 ·have HV : Hid (okMask W rows x = false) := by show okMask W rows x = false; unfold okMask; rw [decide_eq_false h0]; rfl
  have hge : decide (x ≥ 0) = false := by simpa using h0
  go_enter Tryz.func60, Tryz.ntmps60
  go_wp2_with fail
  go_ret
  exact ⟨by rw [HV.out]; rfl, (by (repeat (first | with_reducible exact Below.refl _ _ | with_reducible assumption | with_reducible apply bel_alloc | with_reducible apply bel_drew | with_reducible apply bel_drewN | ((with_reducible refine bel_set ?_ ?_); rotate_left; (simp <;> omega)) | (with_reducible refine bel_trans ?_ (by with_reducible assumption)))))⟩
theorem TurnMask_i (W : Int) (A : Option Addr) (h c : Nat) (rows : List Int) (x m : Int) (w : World) (hr : Rd w A (vI rows)) (hl : rows.length = h) (hx : x < 9223372036854775808) :
  Calls Tryz.prog 21 #[.agg #[.int .i64 W, .slice A h c], .int .i64 x, .int .i64 m] w (Ret w (.tuple #[.int .i64 (tmV W rows x m), .bool (tmOk W rows x m)])) := by
 have HL := Lib.hid hl
 have hml := motV_len W rows
 cases ha : (motV W rows).any (· == m) with
 | false =>
  have HO : Hid (tmOk W rows x m = false) := by show tmOk W rows x m = false; unfold tmOk; rw [ha]; rfl
  have HV : Hid (tmV W rows x m = 0) := by show tmV W rows x m = 0; unfold tmV; rw [HO.out]; rfl
  have HA := Lib.hid ha
  clear ha hl
  go_enter Tryz.func21, Tryz.ntmps21
  go_wp2_with fail
  refine (RegionMotions_i _ _ _ _ rows _ (hr.alloc _) HL.out).mono ?_
  rintro e w1 ⟨B, q, cq, rfl, ho, hb1⟩
  have hq : (motV W rows).length = q := by have := own_len ho; rw [vI_length] at this; omega
  have HQ := Lib.hid hq
  have hq8 : q ≤ 1099511627776 := by omega
  clear hq hml
  go_wp2_with fail
  refine (hasInt_i _ _ _ _ m _ (Rd.of_own ho) HQ.out hq8).mono ?_
  rw [HA.out]
  rintro e w2 ⟨rfl, hb2⟩
  go_wp2_with fail
  go_ret2
  exact ⟨by rw [HV.out, HO.out]; rfl, (by (repeat (first | with_reducible exact Below.refl _ _ | with_reducible assumption | with_reducible apply bel_alloc | with_reducible apply bel_drew | with_reducible apply bel_drewN | ((with_reducible refine bel_set ?_ ?_); rotate_left; (simp <;> omega)) | (with_reducible refine bel_trans ?_ (by with_reducible assumption)))))⟩
 | true =>
  obtain ⟨hv, k, hk8, rfl, hg⟩ := motV_any ha
  have HT := Lib.hid hv
  have HA := Lib.hid ha
  have HB0 := Lib.hid (Blk.new w 26 #[.int .i64 W, .slice A h c])
  cases hi : okMask W rows x with
  | false =>
   have HO : Hid (tmOk W rows x k = false) := by show tmOk W rows x k = false; unfold tmOk; rw [ha, hi]; rfl
   have HV : Hid (tmV W rows x k = 0) := by show tmV W rows x k = 0; unfold tmV; rw [HO.out]; rfl
   have HI := Lib.hid hi
   clear ha hl hv hg hi
   go_enter Tryz.func21, Tryz.ntmps21
   go_wp2_with fail
   refine (RegionMotions_i _ _ _ _ rows _ (hr.alloc _) HL.out).mono ?_
   rintro e w1 ⟨B, q, cq, rfl, ho, hb1⟩
   have hq : (motV W rows).length = q := by have := own_len ho; rw [vI_length] at this; omega
   have HQ := Lib.hid hq
   have hq8 : q ≤ 1099511627776 := by omega
   clear hq
   go_wp2_with fail
   refine (hasInt_i _ _ _ _ k _ (Rd.of_own ho) HQ.out hq8).mono ?_
   rw [HA.out]
   rintro e w2 ⟨rfl, hb2⟩
   have hB2 := (HB0.out.below hb1).below hb2
   have f0 : w2.cell? ⟨w.heap.size, 0, none⟩ = some (.int .i64 W) := by simpa using hB2.cell 0
   have f1 : w2.cell? ⟨w.heap.size, 1, none⟩ = some (.slice A h c) := by simpa using hB2.cell 1
   have hgw2 := hB2.lt
   clear hB2
   go_wp2_with fail
   refine (isMask_i _ _ _ _ rows _ _ (((hr.alloc _).below hb1).below hb2) HL.out HT.out hx).mono ?_
   rw [HI.out]
   rintro e w3 ⟨rfl, hb3⟩
   go_wp2_with fail
   go_ret2
   exact ⟨by rw [HV.out, HO.out]; rfl, (by (repeat (first | with_reducible exact Below.refl _ _ | with_reducible assumption | with_reducible apply bel_alloc | with_reducible apply bel_drew | with_reducible apply bel_drewN | ((with_reducible refine bel_set ?_ ?_); rotate_left; (simp <;> omega)) | (with_reducible refine bel_trans ?_ (by with_reducible assumption)))))⟩
  | true =>
   have HO : Hid (tmOk W rows x k = true) := by show tmOk W rows x k = true; unfold tmOk; rw [ha, hi]; rfl
   have HI := Lib.hid hi
   unfold okMask at hi
   rw [Bool.and_eq_true, decide_eq_true_eq] at hi
   obtain ⟨hx0, hin⟩ := hi
   obtain ⟨q0, rfl⟩ : ∃ q : Nat, x = (q : Int) := ⟨x.toNat, by omega⟩
   have hlt := inM_lt hin (maskV_lt2 hv)
   obtain ⟨n, rfl, hn1, hn6, hh1, hh6, _⟩ := isReg_yes hv
   rw [hl] at hh1 hh6 hlt hg
   have HV : Hid (tmV n rows q0 k = (turnTo n h k q0 (n * h) : Nat)) := by show tmV n rows q0 k = _; unfold tmV; rw [HO.out, hl]; rfl
   have HG : Hid (goesM n h k = true) := hg
   have HLT : Hid (q0 < 2 ^ (n * h)) := hlt
   clear ha hl hv hg hin hlt
   go_enter Tryz.func21, Tryz.ntmps21
   go_wp2_with fail
   refine (RegionMotions_i _ _ _ _ rows _ (hr.alloc _) HL.out).mono ?_
   rintro e w1 ⟨B, q, cq, rfl, ho, hb1⟩
   have hq : (motV (n : Int) rows).length = q := by have := own_len ho; rw [vI_length] at this; omega
   have HQ := Lib.hid hq
   have hq8 : q ≤ 1099511627776 := by omega
   clear hq
   go_wp2_with fail
   refine (hasInt_i _ _ _ _ k _ (Rd.of_own ho) HQ.out hq8).mono ?_
   rw [HA.out]
   rintro e w2 ⟨rfl, hb2⟩
   have hB2 := (HB0.out.below hb1).below hb2
   have f0 : w2.cell? ⟨w.heap.size, 0, none⟩ = some (.int .i64 (n : Int)) := by simpa using hB2.cell 0
   have f1 : w2.cell? ⟨w.heap.size, 1, none⟩ = some (.slice A h c) := by simpa using hB2.cell 1
   have hgw2 := hB2.lt
   clear hB2
   go_wp2_with fail
   refine (isMask_i _ _ _ _ rows _ _ (((hr.alloc _).below hb1).below hb2) HL.out HT.out hx).mono ?_
   rw [HI.out]
   rintro e w3 ⟨rfl, hb3⟩
   have hB3 := ((HB0.out.below hb1).below hb2).below hb3
   have g0 : w3.cell? ⟨w.heap.size, 0, none⟩ = some (.int .i64 (n : Int)) := by simpa using hB3.cell 0
   have g1 : w3.cell? ⟨w.heap.size, 1, none⟩ = some (.slice A h c) := by simpa using hB3.cell 1
   have hgw3 := hB3.lt
   clear hB3 f0 f1
   go_wp2_with fail
   refine (carryMask_i n _ h _ rows q0 k _ ((((hr.alloc _).below hb1).below hb2).below hb3) HL.out ⟨hn1, hn6⟩ ⟨hh1, hh6⟩ hk8 HG.out HLT.out).mono ?_
   rintro e w4 ⟨rfl, hb4⟩
   go_wp2_with fail
   go_ret2
   exact ⟨by rw [HV.out, HO.out]; rfl, (by (repeat (first | with_reducible exact Below.refl _ _ | with_reducible assumption | with_reducible apply bel_alloc | with_reducible apply bel_drew | with_reducible apply bel_drewN | ((with_reducible refine bel_set ?_ ?_); rotate_left; (simp <;> omega)) | (with_reducible refine bel_trans ?_ (by with_reducible assumption)))))⟩
theorem TurnMask_s (W : Int) (A : Option Addr) (h c : Nat) (rows : List Int) (x m : Int) (w : World) (hr : Rd w A (vI rows)) (hl : rows.length = h) (hx : x < 9223372036854775808) :
  Calls Tryz.prog 22 #[.agg #[.int .i64 W, .slice A h c], .int .i64 x, .int .i64 m] w (Ret w (.tuple #[.int .i64 (tmV W rows x m), .bool (tmOk W rows x m)])) := by
 have HL := Lib.hid hl
 have hml := motV_len W rows
 cases ha : (motV W rows).any (· == m) with
 | false =>
  have HO : Hid (tmOk W rows x m = false) := by show tmOk W rows x m = false; unfold tmOk; rw [ha]; rfl
  have HV : Hid (tmV W rows x m = 0) := by show tmV W rows x m = 0; unfold tmV; rw [HO.out]; rfl
  have HA := Lib.hid ha
  clear ha hl
  go_enter Tryz.func22, Tryz.ntmps22
  go_wp2_with fail
  refine (RegionMotions_s _ _ _ _ rows _ (hr.alloc _) HL.out).mono ?_
  rintro e w1 ⟨B, q, cq, rfl, ho, hb1⟩
  have hq : (motV W rows).length = q := by have := own_len ho; rw [vI_length] at this; omega
  have HQ := Lib.hid hq
  have hq8 : q ≤ 1099511627776 := by omega
  clear hq hml
  go_wp2_with fail
  refine (l7Has_s _ _ _ _ m _ (Rd.of_own ho) HQ.out hq8).mono ?_
  rw [HA.out]
  rintro e w2 ⟨rfl, hb2⟩
  go_wp2_with fail
  go_ret2
  exact ⟨by rw [HV.out, HO.out]; rfl, (by (repeat (first | with_reducible exact Below.refl _ _ | with_reducible assumption | with_reducible apply bel_alloc | with_reducible apply bel_drew | with_reducible apply bel_drewN | ((with_reducible refine bel_set ?_ ?_); rotate_left; (simp <;> omega)) | (with_reducible refine bel_trans ?_ (by with_reducible assumption)))))⟩
 | true =>
  obtain ⟨hv, k, hk8, rfl, hg⟩ := motV_any ha
  have HT := Lib.hid hv
  have HA := Lib.hid ha
  have HB0 := Lib.hid (Blk.new w 26 #[.int .i64 W, .slice A h c])
  by_cases h0 : 0 ≤ x
  ·obtain ⟨q0, rfl⟩ : ∃ q : Nat, x = (q : Int) := ⟨x.toNat, by omega⟩
   have hm62 := maskV_62 hv
   obtain ⟨v, hve⟩ : ∃ v, maskV W rows = v := ⟨_, rfl⟩
   rw [hve] at hm62
   have hand := i64_and q0 v (by omega) (by omega)
   obtain ⟨t, ht⟩ : ∃ t, q0 &&& v = t := ⟨_, rfl⟩
   rw [ht] at hand
   have hx0 : ¬ (q0 : Int) < 0 := by omega
   have hxd : decide ((q0 : Int) < 0) = false := by simp
   have HVE := Lib.hid hve
   cases hi : inM q0 v with
   | false =>
    have hi2 : okMask W rows (q0 : Int) = false := by unfold okMask; rw [hve, decide_eq_true h0]; exact hi
    have HO : Hid (tmOk W rows q0 k = false) := by show tmOk W rows q0 k = false; unfold tmOk; rw [ha, hi2]; rfl
    have HV : Hid (tmV W rows q0 k = 0) := by show tmV W rows q0 k = 0; unfold tmV; rw [HO.out]; rfl
    have htq : ((t : Int) != (q0 : Int)) = true := by
     unfold inM at hi
     rw [ht, beq_eq_false_iff_ne] at hi
     rw [bne_iff_ne]; omega
    clear ha hl hv hg hi hi2 ht hm62 hve
    go_enter Tryz.func22, Tryz.ntmps22
    go_wp2_with fail
    refine (RegionMotions_s _ _ _ _ rows _ (hr.alloc _) HL.out).mono ?_
    rintro e w1 ⟨B, q, cq, rfl, ho, hb1⟩
    have hq : (motV W rows).length = q := by have := own_len ho; rw [vI_length] at this; omega
    have HQ := Lib.hid hq
    have hq8 : q ≤ 1099511627776 := by omega
    clear hq
    go_wp2_with fail
    refine (l7Has_s _ _ _ _ k _ (Rd.of_own ho) HQ.out hq8).mono ?_
    rw [HA.out]
    rintro e w2 ⟨rfl, hb2⟩
    have hB2 := (HB0.out.below hb1).below hb2
    have f0 : w2.cell? ⟨w.heap.size, 0, none⟩ = some (.int .i64 W) := by simpa using hB2.cell 0
    have f1 : w2.cell? ⟨w.heap.size, 1, none⟩ = some (.slice A h c) := by simpa using hB2.cell 1
    have hgw2 := hB2.lt
    clear hB2
    go_wp2_with fail
    refine (MaskOf_s _ _ _ _ rows _ (((hr.alloc _).below hb1).below hb2) HL.out).mono ?_
    rw [HVE.out]
    rintro e w3 ⟨rfl, hb3⟩
    go_wp2_with fail
    go_ret2
    exact ⟨by rw [HV.out, HO.out]; rfl, (by (repeat (first | with_reducible exact Below.refl _ _ | with_reducible assumption | with_reducible apply bel_alloc | with_reducible apply bel_drew | with_reducible apply bel_drewN | ((with_reducible refine bel_set ?_ ?_); rotate_left; (simp <;> omega)) | (with_reducible refine bel_trans ?_ (by with_reducible assumption)))))⟩
   | true =>
    have hi2 : okMask W rows (q0 : Int) = true := by unfold okMask; rw [hve, decide_eq_true h0]; exact hi
    have HO : Hid (tmOk W rows q0 k = true) := by show tmOk W rows q0 k = true; unfold tmOk; rw [ha, hi2]; rfl
    have htq : ((t : Int) != (q0 : Int)) = false := by
     unfold inM at hi
     rw [ht, beq_iff_eq] at hi
     rw [hi]; simp
    have hlt : q0 < 2 ^ 62 := Nat.lt_trans (inM_lt hi hm62) (by decide)
    obtain ⟨n, rfl, hn1, hn6, hh1, hh6, _⟩ := isReg_yes hv
    rw [hl] at hh1 hh6 hg
    have HV : Hid (tmV n rows q0 k = (turnTo n h k q0 (n * h) : Nat)) := by show tmV n rows q0 k = _; unfold tmV; rw [HO.out, hl]; rfl
    have HG : Hid (goesM n h k = true) := hg
    have HLT := Lib.hid hlt
    clear ha hl hv hg hlt hi hi2 ht hm62 hve
    go_enter Tryz.func22, Tryz.ntmps22
    go_wp2_with fail
    refine (RegionMotions_s _ _ _ _ rows _ (hr.alloc _) HL.out).mono ?_
    rintro e w1 ⟨B, q, cq, rfl, ho, hb1⟩
    have hq : (motV (n : Int) rows).length = q := by have := own_len ho; rw [vI_length] at this; omega
    have HQ := Lib.hid hq
    have hq8 : q ≤ 1099511627776 := by omega
    clear hq
    go_wp2_with fail
    refine (l7Has_s _ _ _ _ k _ (Rd.of_own ho) HQ.out hq8).mono ?_
    rw [HA.out]
    rintro e w2 ⟨rfl, hb2⟩
    have hB2 := (HB0.out.below hb1).below hb2
    have f0 : w2.cell? ⟨w.heap.size, 0, none⟩ = some (.int .i64 (n : Int)) := by simpa using hB2.cell 0
    have f1 : w2.cell? ⟨w.heap.size, 1, none⟩ = some (.slice A h c) := by simpa using hB2.cell 1
    have hgw2 := hB2.lt
    clear hB2
    go_wp2_with fail
    refine (MaskOf_s _ _ _ _ rows _ (((hr.alloc _).below hb1).below hb2) HL.out).mono ?_
    rw [HVE.out]
    rintro e w3 ⟨rfl, hb3⟩
    have hB3 := ((HB0.out.below hb1).below hb2).below hb3
    have g0 : w3.cell? ⟨w.heap.size, 0, none⟩ = some (.int .i64 (n : Int)) := by simpa using hB3.cell 0
    have g1 : w3.cell? ⟨w.heap.size, 1, none⟩ = some (.slice A h c) := by simpa using hB3.cell 1
    have hgw3 := hB3.lt
    clear hB3 f0 f1
    go_wp2_with fail
    refine (l23Turn_s n A h c rows q0 k _ ((((hr.alloc _).below hb1).below hb2).below hb3) HL.out ⟨hn1, hn6⟩ ⟨hh1, hh6⟩ hk8 HG.out HLT.out).mono ?_
    rintro e w4 ⟨rfl, hb4⟩
    go_wp2_with fail
    go_ret2
    exact ⟨by rw [HV.out, HO.out]; rfl, (by (repeat (first | with_reducible exact Below.refl _ _ | with_reducible assumption | with_reducible apply bel_alloc | with_reducible apply bel_drew | with_reducible apply bel_drewN | ((with_reducible refine bel_set ?_ ?_); rotate_left; (simp <;> omega)) | (with_reducible refine bel_trans ?_ (by with_reducible assumption)))))⟩
  ·have hi2 : okMask W rows x = false := by unfold okMask; rw [decide_eq_false h0]; rfl
   have HO : Hid (tmOk W rows x k = false) := by show tmOk W rows x k = false; unfold tmOk; rw [ha, hi2]; rfl
   have HV : Hid (tmV W rows x k = 0) := by show tmV W rows x k = 0; unfold tmV; rw [HO.out]; rfl
   have hxd : decide (x < 0) = true := by simp; omega
   clear ha hl hv hg hi2 h0
   go_enter Tryz.func22, Tryz.ntmps22
   go_wp2_with fail
   refine (RegionMotions_s _ _ _ _ rows _ (hr.alloc _) HL.out).mono ?_
   rintro e w1 ⟨B, q, cq, rfl, ho, hb1⟩
   have hq : (motV W rows).length = q := by have := own_len ho; rw [vI_length] at this; omega
   have HQ := Lib.hid hq
   have hq8 : q ≤ 1099511627776 := by omega
   clear hq
   go_wp2_with fail
   refine (l7Has_s _ _ _ _ k _ (Rd.of_own ho) HQ.out hq8).mono ?_
   rw [HA.out]
   rintro e w2 ⟨rfl, hb2⟩
   have hB2 := (HB0.out.below hb1).below hb2
   have f0 : w2.cell? ⟨w.heap.size, 0, none⟩ = some (.int .i64 W) := by simpa using hB2.cell 0
   have f1 : w2.cell? ⟨w.heap.size, 1, none⟩ = some (.slice A h c) := by simpa using hB2.cell 1
   have hgw2 := hB2.lt
   clear hB2
   go_wp2_with fail
   go_ret2
   exact ⟨by rw [HV.out, HO.out]; rfl, (by (repeat (first | with_reducible exact Below.refl _ _ | with_reducible assumption | with_reducible apply bel_alloc | with_reducible apply bel_drew | with_reducible apply bel_drewN | ((with_reducible refine bel_set ?_ ?_); rotate_left; (simp <;> omega)) | (with_reducible refine bel_trans ?_ (by with_reducible assumption)))))⟩
end

section
namespace StM
def sg (d : Nat → Int) (a : Nat) : Nat → List Int
 | 0 => []
 | n + 1 => d a :: sg d (a + 1) n
theorem sg_len (d : Nat → Int) : ∀ (n a : Nat), (sg d a n).length = n
 | 0, a => rfl
 | n + 1, a => by simp [sg, sg_len d n]
theorem sg_app (d : Nat → Int) : ∀ (n m a : Nat), sg d a (n + m) = sg d a n ++ sg d (a + n) m
 | 0, m, a => by simp [sg]
 | n + 1, m, a => by rw [Nat.succ_add]; simp only [sg, List.cons_append]; rw [sg_app d n m (a + 1), show a + 1 + n = a + (n + 1) by omega]
theorem sg_congr {d e : Nat → Int} : ∀ (n a b : Nat), (∀ k, k < n → d (a + k) = e (b + k)) → sg d a n = sg e b n
 | 0, a, b, h => rfl
 | n + 1, a, b, h => by
  simp only [sg]
  rw [show d a = e b from h 0 (by omega), sg_congr n (a + 1) (b + 1) fun k hk => by rw [show a + 1 + k = a + (k + 1) by omega, show b + 1 + k = b + (k + 1) by omega]; exact h _ (by omega)]
theorem sg_mem {d : Nat → Int} {x : Int} : ∀ {n a : Nat}, x ∈ sg d a n → ∃ k, a ≤ k ∧ k < a + n ∧ x = d k
 | 0, a, h => by simp [sg] at h
 | n + 1, a, h => by
  rcases List.mem_cons.1 h with h | h
  ·exact ⟨a, Nat.le_refl _, by omega, h⟩
  ·obtain ⟨k, h1, h2, h3⟩ := sg_mem h
   exact ⟨k, by omega, by omega, h3⟩
def rot (d : Nat → Int) (s m e : Nat) : Nat → Int := fun k => if k < s then d k else if k < s + (e - m) then d (m + (k - s)) else if k < e then d (k - (e - m)) else d k
variable (key : Int → Nat)
def Srt (a b : Nat) (d : Nat → Int) : Prop := ∀ i j, a ≤ i → i < j → j < b → key (d i) ≤ key (d j)
structure Stb (a b : Nat) (d d' : Nat → Int) : Prop where
 out : ∀ k, k < a ∨ b ≤ k → d' k = d k
 fil : ∀ q, (sg d' a (b - a)).filter (fun x => key x == q) = (sg d a (b - a)).filter (fun x => key x == q)
variable {key}
theorem Stb.refl (a b : Nat) (d : Nat → Int) : Stb key a b d d := ⟨fun _ _ => rfl, fun _ => rfl⟩
theorem Stb.trans {a b : Nat} {d e f : Nat → Int} (h : Stb key a b d e) (k : Stb key a b e f) : Stb key a b d f :=
 ⟨fun x hx => (k.out x hx).trans (h.out x hx), fun q => (k.fil q).trans (h.fil q)⟩
theorem Stb.mono {a b a' b' : Nat} {d e : Nat → Int} (h : Stb key a' b' d e) (h1 : a ≤ a') (h2 : a' ≤ b') (h3 : b' ≤ b) : Stb key a b d e := by
 refine ⟨fun x hx => h.out x (by omega), fun q => ?_⟩
 have key2 : ∀ f : Nat → Int, sg f a (b - a) = sg f a (a' - a) ++ (sg f a' (b' - a') ++ sg f b' (b - b')) := fun f => by
  have e1 := sg_app f (a' - a) (b - a') a
  have e2 := sg_app f (b' - a') (b - b') a'
  rw [show a' - a + (b - a') = b - a by omega, show a + (a' - a) = a' by omega] at e1
  rw [show b' - a' + (b - b') = b - a' by omega, show a' + (b' - a') = b' by omega] at e2
  rw [e1, e2]
 rw [key2, key2]
 simp only [List.filter_append]
 rw [h.fil q, sg_congr (d := e) (e := d) (a' - a) a a fun k hk => h.out _ (by omega), sg_congr (d := e) (e := d) (b - b') b' b' fun k hk => h.out _ (by omega)]
theorem Stb.from_ {a b : Nat} {d e : Nat → Int} (h : Stb key a b d e) {k : Nat} (h1 : a ≤ k) (h2 : k < b) : ∃ i, a ≤ i ∧ i < b ∧ e k = d i := by
 have hm : ∀ (n a : Nat) (k : Nat), a ≤ k → k < a + n → e k ∈ sg e a n := by
  intro n
  induction n with
  | zero => intro a k h1 h2; omega
  | succ n ih =>
   intro a k h1 h2
   by_cases hk : k = a
   ·subst hk; exact List.mem_cons_self ..
   ·exact List.mem_cons_of_mem _ (ih (a + 1) k (by omega) (by omega))
 have h3 : e k ∈ (sg e a (b - a)).filter (fun x => key x == key (e k)) := List.mem_filter.2 ⟨hm _ _ _ h1 (by omega), by simp⟩
 rw [h.fil] at h3
 obtain ⟨i, h4, h5, h6⟩ := sg_mem (List.mem_filter.1 h3).1
 exact ⟨i, h4, by omega, h6⟩
theorem fil_swap {A B : List Int} (h : ∀ x ∈ A, ∀ y ∈ B, key x ≠ key y) (q : Nat) : (B ++ A).filter (fun x => key x == q) = (A ++ B).filter (fun x => key x == q) := by
 rw [List.filter_append, List.filter_append]
 by_cases hA : A.filter (fun x => key x == q) = []
 ·rw [hA]; simp
 ·have hB : B.filter (fun x => key x == q) = [] := by
   rw [List.filter_eq_nil_iff]
   intro y hy hyq
   obtain ⟨x, hx⟩ := List.exists_mem_of_ne_nil _ hA
   obtain ⟨hx1, hx2⟩ := List.mem_filter.1 hx
   exact h x hx1 y hy (by rw [beq_iff_eq] at hx2 hyq; rw [hx2, hyq])
  rw [hB]; simp
theorem rot_stb {d : Nat → Int} {s m e : Nat} (h1 : s ≤ m) (h2 : m ≤ e) (h : ∀ i j, s ≤ i → i < m → m ≤ j → j < e → key (d j) < key (d i)) : Stb key s e d (rot d s m e) := by
 refine ⟨fun k hk => ?_, fun q => ?_⟩
 ·unfold rot
  by_cases h3 : k < s
  ·rw [if_pos h3]
  ·rw [if_neg h3, if_neg (by omega), if_neg (by omega)]
 ·have e1 := sg_app (rot d s m e) (e - m) (m - s) s
  have e2 := sg_app d (m - s) (e - m) s
  rw [show e - m + (m - s) = e - s by omega] at e1
  rw [show m - s + (e - m) = e - s by omega, show s + (m - s) = m by omega] at e2
  have e3 : sg (rot d s m e) s (e - m) = sg d m (e - m) := sg_congr _ _ _ fun k hk => by
   unfold rot
   rw [if_neg (by omega), if_pos (by omega), show s + k - s = k by omega]
  have e4 : sg (rot d s m e) (s + (e - m)) (m - s) = sg d s (m - s) := sg_congr _ _ _ fun k hk => by
   unfold rot
   rw [if_neg (by omega), if_neg (by omega), if_pos (by omega), show s + (e - m) + k - (e - m) = s + k by omega]
  rw [e1, e2, e3, e4]
  refine fil_swap (fun x hx y hy => ?_) q
  obtain ⟨i, hi1, hi2, rfl⟩ := sg_mem hx
  obtain ⟨j, hj1, hj2, rfl⟩ := sg_mem hy
  have := h i j hi1 (by omega) hj1 (by omega)
  omega
theorem stab_unique : ∀ {L M : List Int}, L.Pairwise (fun x y => key x ≤ key y) → M.Pairwise (fun x y => key x ≤ key y) → (∀ q, L.filter (fun x => key x == q) = M.filter (fun x => key x == q)) → L = M
 | [], [], _, _, _ => rfl
 | [], y :: M, _, _, h => by have := h (key y); simp at this
 | x :: L, [], _, _, h => by have := h (key x); simp at this
 | x :: L, y :: M, hL, hM, h => by
  have hL' := List.pairwise_cons.1 hL
  have hM' := List.pairwise_cons.1 hM
  have k1 : key y ≤ key x := by
   have h1 : x ∈ (y :: M).filter (fun z => key z == key x) := by rw [← h]; simp
   rcases List.mem_cons.1 (List.mem_filter.1 h1).1 with e | e
   ·rw [e]; exact Nat.le_refl _
   ·exact hM'.1 _ e
  have k2 : key x ≤ key y := by
   have h1 : y ∈ (x :: L).filter (fun z => key z == key y) := by rw [h]; simp
   rcases List.mem_cons.1 (List.mem_filter.1 h1).1 with e | e
   ·rw [e]; exact Nat.le_refl _
   ·exact hL'.1 _ e
  have hk : key x = key y := Nat.le_antisymm k2 k1
  have hxy : x = y := by
   have h1 := h (key x)
   rw [List.filter_cons_of_pos (by simp), List.filter_cons_of_pos (by simp [hk])] at h1
   exact (List.cons.inj h1).1
  subst hxy
  congr 1
  refine stab_unique hL'.2 hM'.2 fun q => ?_
  have h1 := h q
  simp only [List.filter_cons] at h1
  split at h1
  ·exact (List.cons.inj h1).2
  ·exact h1
def sw (d : Nat → Int) (a b n : Nat) : Nat → Int := fun k => if a ≤ k ∧ k < a + n then d (b + (k - a)) else if b ≤ k ∧ k < b + n then d (a + (k - b)) else d k
theorem rot_idl (d : Nat → Int) (m e : Nat) (h : m ≤ e) : rot d m m e = d := by
 funext k
 unfold rot
 split
 ·rfl
 ·split
  ·congr 1; omega
  ·split
   ·omega
   ·rfl
theorem rot_idr (d : Nat → Int) (s m : Nat) (h : s ≤ m) : rot d s m m = d := by
 funext k
 unfold rot
 split
 ·rfl
 ·split
  ·omega
  ·split
   ·congr 1; omega
   ·rfl
theorem rot_gt (d : Nat → Int) (m i j : Nat) (h : j < i) (hi : i ≤ m) : rot (sw d (m - i) m j) (m - (i - j)) m (m + j) = rot d (m - i) m (m + j) := by
 funext k
 unfold rot sw
 repeat' split
 all_goals first
  | omega
  | (congr 1; omega)
theorem rot_lt (d : Nat → Int) (m i j : Nat) (h : i < j) (hi : i ≤ m) : rot (sw d (m - i) (m + j - i) i) (m - i) m (m + (j - i)) = rot d (m - i) m (m + j) := by
 funext k
 unfold rot sw
 repeat' split
 all_goals first
  | omega
  | (congr 1; omega)
theorem rot_eq (d : Nat → Int) (m i : Nat) (hi : i ≤ m) : sw d (m - i) m i = rot d (m - i) m (m + i) := by
 funext k
 unfold rot sw
 repeat' split
 all_goals first
  | omega
  | (congr 1; omega)
theorem sw_succ (d : Nat → Int) (a b n : Nat) (h : a + (n + 1) ≤ b) : (fun k => if k = a + n then sw d a b n (b + n) else if k = b + n then sw d a b n (a + n) else sw d a b n k) = sw d a b (n + 1) := by
 funext k
 unfold sw
 repeat' split
 all_goals first
  | omega
  | (congr 1; omega)
theorem merge1 {d : Nat → Int} {a m b i : Nat} (hm : m = a + 1) (h1 : m ≤ i) (h2 : i ≤ b) (hs : Srt key m b d) (hl : ∀ k, m ≤ k → k < i → key (d k) < key (d a)) (hr : ∀ k, i ≤ k → k < b → key (d a) ≤ key (d k)) :
  Stb key a b d (rot d a m i) ∧ Srt key a b (rot d a m i) := by
 refine ⟨(rot_stb (by omega) h1 fun x y hx1 hx2 hy1 hy2 => ?_).mono (Nat.le_refl _) (by omega) h2, fun x y hx hxy hy => ?_⟩
 ·obtain rfl : x = a := by omega
  exact hl y hy1 hy2
 ·unfold rot
  rw [if_neg (by omega), if_neg (by omega : ¬ y < a)]
  by_cases c1 : x < a + (i - m)
  ·rw [if_pos c1]
   by_cases c2 : y < a + (i - m)
   ·rw [if_pos c2]; exact hs _ _ (by omega) (by omega) (by omega)
   ·rw [if_neg c2]
    by_cases c3 : y < i
    ·rw [if_pos c3, show y - (i - m) = a by omega]
     exact Nat.le_of_lt (hl _ (by omega) (by omega))
    ·rw [if_neg c3]; exact hs _ _ (by omega) (by omega) (by omega)
  ·rw [if_neg c1, if_neg (by omega : ¬ y < a + (i - m)), if_neg (by omega : ¬ y < i)]
   by_cases c3 : x < i
   ·rw [if_pos c3, show x - (i - m) = a by omega]; exact hr _ (by omega) hy
   ·rw [if_neg c3]; exact hs _ _ (by omega) (by omega) (by omega)
theorem merge2 {d : Nat → Int} {a m b i : Nat} (hm : b = m + 1) (h1 : a ≤ i) (h2 : i ≤ m) (hs : Srt key a m d) (hl : ∀ k, a ≤ k → k < i → key (d k) ≤ key (d m)) (hr : ∀ k, i ≤ k → k < m → key (d m) < key (d k)) :
  Stb key a b d (rot d i m b) ∧ Srt key a b (rot d i m b) := by
 refine ⟨(rot_stb h2 (by omega) fun x y hx1 hx2 hy1 hy2 => ?_).mono h1 (by omega) (Nat.le_refl _), fun x y hx hxy hy => ?_⟩
 ·obtain rfl : y = m := by omega
  exact hr x hx1 hx2
 ·unfold rot
  by_cases c1 : x < i
  ·rw [if_pos c1]
   by_cases c2 : y < i
   ·rw [if_pos c2]; exact hs _ _ (by omega) (by omega) (by omega)
   ·rw [if_neg c2]
    by_cases c3 : y < i + (b - m)
    ·rw [if_pos c3, show m + (y - i) = m by omega]; exact hl _ (by omega) c1
    ·rw [if_neg c3, if_pos hy]; exact hs _ _ (by omega) (by omega) (by omega)
  ·rw [if_neg c1, if_neg (by omega : ¬ y < i)]
   rw [if_neg (by omega : ¬ y < i + (b - m)), if_pos hy]
   by_cases c3 : x < i + (b - m)
   ·rw [if_pos c3, show m + (x - i) = m by omega]; exact Nat.le_of_lt (hr _ (by omega) (by omega))
   ·rw [if_neg c3, if_pos (by omega)]; exact hs _ _ (by omega) (by omega) (by omega)
theorem half {d : Nat → Int} {a m b s e q : Nat} (h1 : a ≤ s) (h2 : s ≤ m) (h3 : m ≤ e) (h4 : e ≤ b) (hq : q = s + (e - m)) (h5 : Srt key a m d) (h6 : Srt key m b d)
  (lo : ∀ i j, a ≤ i → i < s → e ≤ j → j < b → key (d i) ≤ key (d j)) (hi : ∀ i j, s ≤ i → i < m → m ≤ j → j < e → key (d j) < key (d i)) :
  Stb key a b d (rot d s m e) ∧ Srt key a s (rot d s m e) ∧ Srt key s q (rot d s m e) ∧ Srt key q e (rot d s m e) ∧ Srt key e b (rot d s m e) ∧ (∀ x y, a ≤ x → x < q → q ≤ y → y < b → key (rot d s m e x) ≤ key (rot d s m e y)) := by
 subst hq
 have p1 : ∀ k, k < s → rot d s m e k = d k := fun k hk => by unfold rot; rw [if_pos hk]
 have p2 : ∀ k, s ≤ k → k < s + (e - m) → rot d s m e k = d (m + (k - s)) := fun k hk hk2 => by unfold rot; rw [if_neg (by omega), if_pos hk2]
 have p3 : ∀ k, s + (e - m) ≤ k → k < e → rot d s m e k = d (k - (e - m)) := fun k hk hk2 => by unfold rot; rw [if_neg (by omega), if_neg (by omega), if_pos hk2]
 have p4 : ∀ k, e ≤ k → rot d s m e k = d k := fun k hk => by unfold rot; rw [if_neg (by omega), if_neg (by omega), if_neg (by omega)]
 refine ⟨(rot_stb h2 h3 hi).mono h1 (by omega) h4, fun x y hx hxy hy => ?_, fun x y hx hxy hy => ?_, fun x y hx hxy hy => ?_, fun x y hx hxy hy => ?_, fun x y hx hx2 hy hy2 => ?_⟩
 ·rw [p1 _ (by omega), p1 _ hy]; exact h5 _ _ hx hxy (by omega)
 ·rw [p2 _ hx (by omega), p2 _ (by omega) hy]; exact h6 _ _ (by omega) (by omega) (by omega)
 ·rw [p3 _ hx (by omega), p3 _ (by omega) hy]; exact h5 _ _ (by omega) (by omega) (by omega)
 ·rw [p4 _ hx, p4 _ (by omega)]; exact h6 _ _ (by omega) hxy hy
 ·by_cases c1 : x < s
  ·rw [p1 _ c1]
   by_cases c2 : y < e
   ·rw [p3 _ hy c2]
    exact h5 _ _ hx (by omega) (by omega)
   ·rw [p4 _ (by omega)]; exact lo _ _ hx c1 (by omega) hy2
  ·rw [p2 _ (by omega) hx2]
   by_cases c2 : y < e
   ·rw [p3 _ hy c2]; exact Nat.le_of_lt (hi _ _ (by omega) (by omega) (by omega) (by omega))
   ·rw [p4 _ (by omega)]; exact h6 _ _ (by omega) (by omega) hy2
theorem join {d e f : Nat → Int} {a q b : Nat} (h1 : a ≤ q) (h2 : q ≤ b) (hx : ∀ x y, a ≤ x → x < q → q ≤ y → y < b → key (d x) ≤ key (d y))
  (s1 : Stb key a q d e) (t1 : Srt key a q e) (s2 : Stb key q b e f) (t2 : Srt key q b f) : Stb key a b d f ∧ Srt key a b f := by
 refine ⟨(s1.mono (Nat.le_refl _) h1 h2).trans (s2.mono h1 h2 (Nat.le_refl _)), fun x y hx1 hxy hy => ?_⟩
 by_cases c1 : y < q
 ·rw [s2.out _ (.inl (by omega)), s2.out _ (.inl c1)]; exact t1 _ _ hx1 hxy c1
 ·by_cases c2 : x < q
  ·rw [s2.out _ (.inl c2)]
   obtain ⟨i, i1, i2, i3⟩ := s1.from_ (k := x) hx1 c2
   obtain ⟨j, j1, j2, j3⟩ := s2.from_ (k := y) (by omega) hy
   rw [i3, j3, s1.out _ (.inr j1)]
   exact hx _ _ i1 i2 j1 j2
  ·exact t2 _ _ (by omega) hxy hy
theorem start_lo {d : Nat → Int} {a m b mid s r0 s0 : Nat} (hab : a < m) (hmb : m < b) (hmid : mid = (a + b) / 2) (hs0 : (mid < m ∧ s0 = mid + m - b ∧ r0 = mid) ∨ (m ≤ mid ∧ s0 = a ∧ r0 = m)) (h1 : s0 ≤ s) (h2 : s ≤ r0)
  (h5 : Srt key a m d) (h6 : Srt key m b d) (hlo : ∀ c, s0 ≤ c → c < s → key (d c) ≤ key (d (mid + m - 1 - c))) (hhi : ∀ c, s ≤ c → c < r0 → key (d (mid + m - 1 - c)) < key (d c)) :
  a ≤ s ∧ s ≤ m ∧ m ≤ mid + m - s ∧ mid + m - s ≤ b ∧ mid = s + (mid + m - s - m) ∧ (∀ i j, a ≤ i → i < s → mid + m - s ≤ j → j < b → key (d i) ≤ key (d j)) ∧ (∀ i j, s ≤ i → i < m → m ≤ j → j < mid + m - s → key (d j) < key (d i)) := by
 refine ⟨by omega, by omega, by omega, by omega, by omega, fun i j hi1 hi2 hj1 hj2 => ?_, fun i j hi1 hi2 hj1 hj2 => ?_⟩
 ·by_cases c : s0 < s
  ·have k1 := hlo (s - 1) (by omega) (by omega)
   have k2 : key (d i) ≤ key (d (s - 1)) := by
    by_cases e : i = s - 1
    ·rw [e]; exact Nat.le_refl _
    ·exact h5 _ _ hi1 (by omega) (by omega)
   have k3 : key (d (mid + m - 1 - (s - 1))) ≤ key (d j) := by
    by_cases e : mid + m - 1 - (s - 1) = j
    ·rw [e]; exact Nat.le_refl _
    ·exact h6 _ _ (by omega) (by omega) hj2
   omega
  ·omega
 ·by_cases c : s < r0
  ·have k1 := hhi s (Nat.le_refl _) c
   have k2 : key (d s) ≤ key (d i) := by
    by_cases e : s = i
    ·rw [e]; exact Nat.le_refl _
    ·exact h5 _ _ (by omega) (by omega) hi2
   have k3 : key (d j) ≤ key (d (mid + m - 1 - s)) := by
    by_cases e : j = mid + m - 1 - s
    ·rw [e]; exact Nat.le_refl _
    ·exact h6 _ _ hj1 (by omega) (by omega)
   omega
  ·omega
def pos (key : Int → Nat) (x : Int) (out : List Int) : Nat → Nat
 | 0 => 0
 | k + 1 => if key x < key (out.getD k 0) then pos key x out k else k + 1
theorem pos_le (x : Int) (out : List Int) : ∀ k, pos key x out k ≤ k
 | 0 => Nat.le_refl _
 | k + 1 => by
  unfold pos
  split
  ·exact Nat.le_succ_of_le (pos_le x out k)
  ·exact Nat.le_refl _
theorem pos_hi (x : Int) (out : List Int) : ∀ k j, pos key x out k ≤ j → j < k → key x < key (out.getD j 0)
 | 0, j, _, h => by omega
 | k + 1, j, h1, h2 => by
  unfold pos at h1
  split at h1
  ·next h =>
   by_cases e : j = k
   ·rw [e]; exact h
   ·exact pos_hi x out k j h1 (by omega)
  ·omega
theorem pos_lo (x : Int) (out : List Int) : ∀ k, 0 < pos key x out k → key (out.getD (pos key x out k - 1) 0) ≤ key x
 | 0, h => by simp [pos] at h
 | k + 1, h => by
  unfold pos at h ⊢
  split
  ·next h2 => rw [if_pos h2] at h; exact pos_lo x out k h
  ·next h2 => simpa using h2
def insS (key : Int → Nat) (out : List Int) (x : Int) : List Int := out.take (pos key x out out.length) ++ x :: out.drop (pos key x out out.length)
def stS (key : Int → Nat) (L : List Int) : List Int := L.foldl (insS key) []
theorem insS_fil (out : List Int) (x : Int) (q : Nat) : (insS key out x).filter (fun z => key z == q) = (out ++ [x]).filter (fun z => key z == q) := by
 obtain ⟨k, hk⟩ : ∃ k, pos key x out out.length = k := ⟨_, rfl⟩
 have hd : ∀ y ∈ out.drop k, ∀ z ∈ [x], key y ≠ key z := fun y hy z hz => by
  obtain ⟨j, hj, rfl⟩ := List.mem_iff_getElem.1 hy
  rw [List.getElem_drop]
  rw [List.length_drop] at hj
  have := pos_hi (key := key) x out out.length (k + j) (by omega) (by omega)
  rw [List.getD_eq_getElem?_getD, List.getElem?_eq_getElem (by omega), Option.getD_some] at this
  simp only [List.mem_singleton] at hz
  subst hz
  omega
 have h2 := fil_swap (key := key) hd q
 unfold insS
 rw [hk, show x :: out.drop k = [x] ++ out.drop k from rfl, List.filter_append, h2, ← List.filter_append, ← List.append_assoc, List.take_append_drop]
theorem insS_srt {out : List Int} {x : Int} (h : out.Pairwise fun a b => key a ≤ key b) : (insS key out x).Pairwise fun a b => key a ≤ key b := by
 obtain ⟨k, hk⟩ : ∃ k, pos key x out out.length = k := ⟨_, rfl⟩
 have hkl : k ≤ out.length := hk ▸ pos_le x out out.length
 have hg : ∀ i j (hij : i < j) (hj : j < out.length), key (out[i]'(by omega)) ≤ key out[j] := fun i j hij hj => List.pairwise_iff_getElem.1 h i j (by omega) hj hij
 have hT : ∀ y ∈ out.take k, key y ≤ key x := fun y hy => by
  obtain ⟨j, hj, rfl⟩ := List.mem_iff_getElem.1 hy
  rw [List.length_take] at hj
  rw [List.getElem_take]
  have h1 := pos_lo (key := key) x out out.length (by rw [hk]; omega)
  rw [hk, List.getD_eq_getElem?_getD, List.getElem?_eq_getElem (by omega), Option.getD_some] at h1
  by_cases e : j = k - 1
  ·subst e; exact h1
  ·exact Nat.le_trans (hg j (k - 1) (by omega) (by omega)) h1
 have hD : ∀ y ∈ out.drop k, key x ≤ key y := fun y hy => by
  obtain ⟨j, hj, rfl⟩ := List.mem_iff_getElem.1 hy
  rw [List.length_drop] at hj
  rw [List.getElem_drop]
  have := pos_hi (key := key) x out out.length (k + j) (by omega) (by omega)
  rw [List.getD_eq_getElem?_getD, List.getElem?_eq_getElem (by omega), Option.getD_some] at this
  omega
 have hs := h
 rw [← List.take_append_drop k out, List.pairwise_append] at hs
 unfold insS
 rw [hk, List.pairwise_append]
 refine ⟨hs.1, List.pairwise_cons.2 ⟨hD, hs.2.1⟩, fun a ha b hb => ?_⟩
 rcases List.mem_cons.1 hb with e | hb
 ·rw [e]; exact hT a ha
 ·exact hs.2.2 a ha b hb
theorem stS_both (L : List Int) : (stS key L).Pairwise (fun a b => key a ≤ key b) ∧ ∀ q, (stS key L).filter (fun z => key z == q) = L.filter (fun z => key z == q) := by
 have gen : ∀ (L out : List Int), out.Pairwise (fun a b => key a ≤ key b) → (L.foldl (insS key) out).Pairwise (fun a b => key a ≤ key b) ∧ ∀ q, (L.foldl (insS key) out).filter (fun z => key z == q) = (out ++ L).filter (fun z => key z == q) := by
  intro L
  induction L with
  | nil => intro out h; exact ⟨h, fun q => by simp⟩
  | cons x t ih =>
   intro out h
   obtain ⟨h1, h2⟩ := ih (insS key out x) (insS_srt h)
   refine ⟨h1, fun q => ?_⟩
   rw [List.foldl_cons, h2, List.filter_append, insS_fil, ← List.filter_append, List.append_assoc]
   rfl
 have h := gen L [] List.Pairwise.nil
 exact ⟨h.1, fun q => by rw [show stS key L = L.foldl (insS key) [] from rfl, h.2 q]; rfl⟩
theorem stS_len (L : List Int) : (stS key L).length = L.length := by
 have gen : ∀ (L out : List Int), (L.foldl (insS key) out).length = out.length + L.length := by
  intro L
  induction L with
  | nil => intro out; simp
  | cons x t ih =>
   intro out
   have hkl := pos_le (key := key) x out out.length
   rw [List.foldl_cons, ih]
   unfold insS
   simp only [List.length_append, List.length_take, List.length_cons, List.length_drop]
   omega
 have := gen L []
 simpa [stS] using this
theorem sg_pair {d : Nat → Int} {a n : Nat} (h : Srt key a (a + n) d) : (sg d a n).Pairwise (fun x y => key x ≤ key y) := by
 induction n generalizing a with
 | zero => exact List.Pairwise.nil
 | succ n ih =>
  refine List.pairwise_cons.2 ⟨fun y hy => ?_, ih (a := a + 1) fun i j h1 h2 h3 => h i j (by omega) h2 (by omega)⟩
  obtain ⟨k, h1, h2, rfl⟩ := sg_mem hy
  exact h a k (Nat.le_refl _) (by omega) (by omega)
theorem stb_eq {d e : Nat → Int} {n : Nat} (h : Stb key 0 n d e) (hs : Srt key 0 n e) : sg e 0 n = stS key (sg d 0 n) := by
 obtain ⟨h1, h2⟩ := stS_both (key := key) (sg d 0 n)
 refine stab_unique (sg_pair (by rw [Nat.zero_add]; exact hs)) h1 fun q => ?_
 rw [h2 q]
 have := h.fil q
 rw [Nat.sub_zero] at this
 exact this
theorem nb_stb {d : Nat → Int} {j : Nat} (h0 : 0 < j) (h : key (d j) < key (d (j - 1))) : Stb key (j - 1) (j + 1) d (rot d (j - 1) j (j + 1)) :=
 rot_stb (by omega) (by omega) fun x y hx1 hx2 hy1 hy2 => by
  obtain rfl : x = j - 1 := by omega
  obtain rfl : y = j := by omega
  exact h
theorem nb_swap (d : Nat → Int) (j : Nat) (h0 : 0 < j) : (fun k => if k = j then d (j - 1) else if k = j - 1 then d j else d k) = rot d (j - 1) j (j + 1) := by
 funext k
 unfold rot
 repeat' split
 all_goals first
  | omega
  | (congr 1; omega)
end StM
end

section
namespace StM
variable {key : Int → Nat}
def sw2 (d : Nat → Int) (i j : Nat) : Nat → Int := fun k => if k = i then d j else if k = j then d i else d k
theorem sw2_nb (d : Nat → Int) {j p : Nat} (h : j = p + 1) : sw2 d j p = rot d p j (j + 1) := by
 have := nb_swap d j (by omega)
 rw [show j - 1 = p by omega] at this
 exact this
theorem sw2_sw (d : Nat → Int) (a b n : Nat) (h : a + (n + 1) ≤ b) : sw2 (sw d a b n) (a + n) (b + n) = sw d a b (n + 1) := sw_succ d a b n h
theorem sw_zero (d : Nat → Int) (a b : Nat) : sw d a b 0 = d := by
 funext k
 unfold sw
 rw [if_neg (by omega), if_neg (by omega)]
theorem rot_up (d : Nat → Int) {a m k : Nat} (hm : m = a + 1) (h : a ≤ k) : sw2 (rot d a m (k + 1)) k (k + 1) = rot d a m (k + 2) := by
 subst hm
 funext x
 unfold sw2 rot
 repeat' split
 all_goals first
  | omega
  | (congr 1; omega)
theorem rot_dn (d : Nat → Int) {p k m b : Nat} (hb : b = m + 1) (hk : k = p + 1) (h : k ≤ m) : sw2 (rot d k m b) k p = rot d p m b := by
 subst hb
 subst hk
 funext x
 unfold sw2 rot
 repeat' split
 all_goals first
  | omega
  | (congr 1; omega)
theorem nb2 {a b j p : Nat} {d : Nat → Int} (hj : j = p + 1) (h : key (d j) < key (d p)) (h1 : a ≤ p) (h2 : j < b) : Stb key a b d (sw2 d j p) := by
 have k := nb_stb (key := key) (d := d) (j := j) (by omega) (by rw [show j - 1 = p by omega]; exact h)
 rw [show j - 1 = p by omega] at k
 rw [sw2_nb d hj]
 exact k.mono h1 (by omega) (by omega)
def Nr (key : Int → Nat) (a i j : Nat) (d : Nat → Int) : Prop :=
 (∀ x y, a ≤ x → x < y → y ≤ i → x ≠ j → y ≠ j → key (d x) ≤ key (d y)) ∧ (∀ y, j < y → y ≤ i → key (d j) < key (d y))
theorem Nr.start {a i : Nat} {d : Nat → Int} (h : Srt key a i d) : Nr key a i i d :=
 ⟨fun x y h1 h2 h3 h4 h5 => h x y h1 h2 (by omega), fun y h1 h2 => by omega⟩
theorem Nr.step {a i j p : Nat} {d : Nat → Int} (h : Nr key a i j d) (hj : j = p + 1) (ha : a ≤ p) (hi : j ≤ i) (hl : key (d j) < key (d p)) : Nr key a i p (sw2 d j p) := by
 subst hj
 refine ⟨fun x y h1 h2 h3 h4 h5 => ?_, fun y h1 h2 => ?_⟩
 ·unfold sw2
  rw [if_neg h4, if_neg h5]
  by_cases c1 : x = p + 1
  ·rw [if_pos c1, if_neg (by omega)]
   exact h.1 p y (by omega) (by omega) h3 (by omega) (by omega)
  ·rw [if_neg c1]
   by_cases c2 : y = p + 1
   ·rw [if_pos c2]
    exact h.1 x p h1 (by omega) (by omega) c1 (by omega)
   ·rw [if_neg c2]
    exact h.1 x y h1 h2 h3 c1 c2
 ·unfold sw2
  rw [if_neg (by omega : ¬ p = p + 1), if_pos rfl]
  by_cases c2 : y = p + 1
  ·rw [if_pos c2]; exact hl
  ·rw [if_neg c2, if_neg (by omega)]
   exact h.2 y (by omega) h2
theorem Nr.stop {a i j : Nat} {d : Nat → Int} (h : Nr key a i j d) (ha : a ≤ j) (hi : j ≤ i) (hl : j = a ∨ ∃ p, j = p + 1 ∧ key (d p) ≤ key (d j)) : Srt key a (i + 1) d := by
 intro x y h1 h2 h3
 by_cases c1 : x = j
 ·subst c1; exact Nat.le_of_lt (h.2 y h2 (by omega))
 ·by_cases c2 : y = j
  ·rcases hl with e | ⟨p, e, hp⟩
   ·omega
   ·subst c2
    by_cases c3 : x = p
    ·rw [c3]; exact hp
    ·exact Nat.le_trans (h.1 x p h1 (by omega) (by omega) c1 (by omega)) hp
  ·exact h.1 x y h1 h2 (by omega) c1 c2
theorem Srt.one (a b : Nat) (d : Nat → Int) (h : b ≤ a + 1) : Srt key a b d := fun i j h1 h2 h3 => by omega
theorem Srt.sub {a b a' b' : Nat} {d : Nat → Int} (h : Srt key a b d) (h1 : a ≤ a') (h2 : b' ≤ b) : Srt key a' b' d := fun i j x y z => h i j (by omega) y (by omega)
theorem Srt.eq {a b : Nat} {d e : Nat → Int} (h : Srt key a b d) (he : ∀ k, a ≤ k → k < b → e k = d k) : Srt key a b e := fun i j h1 h2 h3 => by
 rw [he i h1 (by omega), he j (by omega) h3]; exact h i j h1 h2 h3
def Bs (key : Int → Nat) (s n u : Nat) (d : Nat → Int) : Prop := ∀ a, s ∣ a → a < u → Srt key a (min (a + s) n) d
theorem Bs.zero (s n : Nat) (d : Nat → Int) : Bs key s n 0 d := fun a _ h => by omega
theorem dvd_lt {s a b : Nat} (h1 : s ∣ a) (h2 : s ∣ b) (h : a < b + s) : a ≤ b := by
 obtain ⟨x, rfl⟩ := h1
 obtain ⟨y, rfl⟩ := h2
 refine Nat.mul_le_mul_left _ ?_
 refine Nat.lt_succ_iff.1 (Nat.lt_of_mul_lt_mul_left (a := s) ?_)
 rw [Nat.mul_succ]
 exact h
theorem Bs.step {s n a b e : Nat} {d d' : Nat → Int} (h : Bs key s n a d) (hs : 0 < s) (ha : s ∣ a) (hb : b = min (a + s) n) (hu : e ≤ a + s) (h1 : Stb key a b d d') (h2 : Srt key a b d') : Bs key s n e d' := by
 intro x hx hxe
 have hle : x ≤ a := dvd_lt hx ha (by omega)
 by_cases c : x = a
 ·rw [c, ← hb]; exact h2
 ·have hxa : x < a := by omega
  have hxs : x + s ≤ a := by
   rcases Nat.lt_or_ge a (x + s) with h3 | h3
   ·exact absurd (dvd_lt ha hx h3) (by omega)
   ·exact h3
  exact (h x hx hxa).eq fun k k1 k2 => h1.out k (.inl (by omega))
theorem Bs.last {s n a : Nat} {d : Nat → Int} (h : Bs key (2 * s) n a d) (hs : 0 < s) (ha : 2 * s ∣ a) (hn : n ≤ a + s) (h2 : a < n → Srt key a n d) : Bs key (2 * s) n n d := by
 intro x hx hxn
 have hle : x ≤ a := dvd_lt hx ha (by omega)
 by_cases c : x = a
 ·rw [c, show min (a + 2 * s) n = n by omega]
  exact h2 (by omega)
 ·exact h x hx (by omega)
def Rs (key : Int → Nat) (s n a : Nat) (d : Nat → Int) : Prop := ∀ x, s ∣ x → a ≤ x → x < n → Srt key x (min (x + s) n) d
theorem Rs.of {s n : Nat} {d : Nat → Int} (h : Bs key s n n d) : Rs key s n 0 d := fun x hx _ hn => h x hx hn
theorem Rs.step {s n a b a' : Nat} {d d' : Nat → Int} (h : Rs key s n a d) (h1 : Stb key a b d d') (h2 : b ≤ a') (h3 : a ≤ a') : Rs key s n a' d' := fun x hx h4 hn =>
 (h x hx (by omega) hn).eq fun k k1 k2 => h1.out k (.inr (by omega))
theorem Rs.left {s n a : Nat} {d : Nat → Int} (h : Rs key s n a d) (ha : 2 * s ∣ a) (hn : a + s ≤ n) (hs : 0 < s) : Srt key a (a + s) d := by
 have := h a (Nat.dvd_trans (Nat.dvd_mul_left s 2) ha) (Nat.le_refl _) (by omega)
 rw [show min (a + s) n = a + s by omega] at this
 exact this
theorem Rs.right {s n a b : Nat} {d : Nat → Int} (h : Rs key s n a d) (ha : 2 * s ∣ a) (hn : a + s < n) (hb : b = min (a + 2 * s) n) : Srt key (a + s) b d := by
 have := h (a + s) (Nat.dvd_add (Nat.dvd_trans (Nat.dvd_mul_left s 2) ha) (Nat.dvd_refl s)) (by omega) hn
 rw [show min (a + s + s) n = b by omega] at this
 exact this
theorem Rs.alone {s n a : Nat} {d : Nat → Int} (h : Rs key s n a d) (ha : 2 * s ∣ a) (hn : n ≤ a + s) (hl : a < n) : Srt key a n d := by
 have := h a (Nat.dvd_trans (Nat.dvd_mul_left s 2) ha) (Nat.le_refl _) hl
 rw [show min (a + s) n = n by omega] at this
 exact this
theorem Bs.all {s n : Nat} {d : Nat → Int} (h : Bs key s n n d) (hn : n ≤ s) : Srt key 0 n d := by
 by_cases c : n = 0
 ·exact Srt.one _ _ _ (by omega)
 ·have := h 0 (Nat.dvd_zero s) (by omega)
  rw [show min (0 + s) n = n by omega] at this
  exact this
theorem Stb.wide {a b n : Nat} {d e f : Nat → Int} (h : Stb key 0 n d e) (k : Stb key a b e f) (h1 : a ≤ b) (h2 : b ≤ n) : Stb key 0 n d f := h.trans (k.mono (Nat.zero_le _) h1 h2)
theorem merge3 {d e f : Nat → Int} {a m b s t q : Nat} (h1 : a ≤ s) (h2 : s ≤ m) (h3 : m ≤ t) (h4 : t ≤ b) (hq : q = s + (t - m)) (h5 : Srt key a m d) (h6 : Srt key m b d)
  (lo : ∀ i j, a ≤ i → i < s → t ≤ j → j < b → key (d i) ≤ key (d j)) (hi : ∀ i j, s ≤ i → i < m → m ≤ j → j < t → key (d j) < key (d i))
  (H1 : Stb key a q (rot d s m t) e ∧ Srt key a q e) (H2 : Stb key q b e f ∧ Srt key q b f) : Stb key a b d f ∧ Srt key a b f := by
 obtain ⟨k1, _, _, _, _, k6⟩ := half h1 h2 h3 h4 hq h5 h6 lo hi
 obtain ⟨j1, j2⟩ := join (by omega) (by omega) k6 H1.1 H1.2 H2.1 H2.2
 exact ⟨k1.trans j1, j2⟩
theorem sg_get (d : Nat → Int) : ∀ (n a k : Nat), k < n → (sg d a n)[k]? = some (d (a + k))
 | 0, a, k, h => by omega
 | n + 1, a, 0, h => by simp [sg]
 | n + 1, a, k + 1, h => by
  simp only [sg, List.getElem?_cons_succ]
  rw [sg_get d n (a + 1) k (by omega), show a + 1 + k = a + (k + 1) by omega]
theorem sg_set (d : Nat → Int) (n i : Nat) (v : Int) : (sg d 0 n).set i v = sg (fun k => if k = i then v else d k) 0 n := by
 apply List.ext_getElem?
 intro k
 rw [List.getElem?_set]
 by_cases hk : k < n
 ·rw [sg_get _ n 0 k hk, sg_get _ n 0 k hk, Nat.zero_add, sg_len]
  by_cases c : i = k
  ·subst c; simp [hk]
  ·rw [if_neg c, if_neg (fun e => c e.symm)]
 ·rw [List.getElem?_eq_none (by rw [sg_len]; omega), List.getElem?_eq_none (by rw [sg_len]; omega), sg_len]
  by_cases c : i = k
  ·rw [if_pos c, if_neg (by omega)]
  ·rw [if_neg c]
theorem sg_sw2 (d : Nat → Int) (n i j : Nat) : ((sg d 0 n).set i (d j)).set j (d i) = sg (sw2 d i j) 0 n := by
 rw [sg_set, sg_set]
 congr 1
 funext k
 unfold sw2
 repeat' split
 all_goals first
  | rfl
  | omega
  | (congr 1; omega)
end StM
end

section
attribute [local go_sem ↓] Go.wp_at_zero Go.wp_at_succ
def Tb (w : World) : Prop := ∀ j, j < Lib.deBruijn64tab.length → w.cell? ⟨1, j, none⟩ = some (.int .u8 (Lib.deBruijn64tab.getD j 0))
theorem Tb.below {w w' : World} (h : Tb w) (hb : Below w.heap.size w w') : Tb w' := fun j hj => keep_below hb (h j hj)
theorem TZ64_l (x : Nat) (w : World) (h0 : x ≠ 0) (hx : x < 2 ^ 62) (hT : Tb w) : Calls Tryz.prog 173 #[.int .u64 (x : Int)] w (Ret w (.int .i64 (lowN x : Nat))) := by
 have hx64 : x < 18446744073709551616 := by omega
 obtain ⟨hlow, hk⟩ := Lib.lowest_bit 64 x h0 hx64
 obtain ⟨hi, htab⟩ := Lib.deBruijn64_at _ hk
 have hcell := hT _ hi
 rw [htab] at hcell
 have key := tz64_key x _ hx64 h0 hlow
 have hx0 : ((x : Int) == 0) = false := by simp; omega
 obtain ⟨k, hk2⟩ : ∃ k, lowN x = k := ⟨_, rfl⟩
 have hk3 : Lib.ctz 64 x = k := hk2
 rw [hk3] at hcell hk key hi
 rw [hk2]
 obtain ⟨idx, hidx⟩ : ∃ idx, 2 ^ k * 285870213051353865 % 18446744073709551616 / 288230376151711744 = idx := ⟨_, rfl⟩
 rw [hidx] at hcell key
 have hi2 : idx < 64 := by rw [← hidx]; omega
 clear hidx hi hlow htab hk2 hk3 hT
 go_enter Tryz.func173, Tryz.ntmps173
 go_wp2_with (simp only [key])
 go_ret
 exact ⟨rfl, Below.refl _ _⟩
theorem TZ_l (x : Nat) (w : World) (h0 : x ≠ 0) (hx : x < 2 ^ 62) (hT : Tb w) : Calls Tryz.prog 123 #[.int .u64 (x : Int)] w (Ret w (.int .i64 (lowN x : Nat))) := by
 have h := TZ64_l x w h0 hx hT
 have H := Lib.hid h
 have hw : IntKind.u64.wrap (x : Int) = (x : Int) := by rw [IntKind.wrap_u64]; omega
 clear h hT h0
 go_enter Tryz.func123, Tryz.ntmps123
 go_wp2_with fail
 refine H.out.mono ?_
 rintro e w1 ⟨rfl, hb1⟩
 go_wp2_with fail
 go_ret
 exact ⟨rfl, hb1⟩
end
end Go.Proofs.YtkcgdnnipohehaaGreatDoor
