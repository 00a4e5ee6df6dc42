/- Texts of this claim, one behind the other: part 2. -/
import Derived.Test.YtkcgdnnipohehaaGreatDoorU1FnOrbits
import Derived.Outline
import Derived.WalkLawsBesides
import Derived.WalkSpells
import Derived.BigQuiet
import Derived.Deep.QuietTactic
import Derived.Deep.RegionHeld3
import Derived.Deep.RegionWith
import Derived.Deep.DeepCutAuto
import Derived.Deep.CutBlock
import Derived.Deep.DrawnRows
import Derived.Test.YtkcgdnnipohehaaGreatDoorProg
namespace Go.Proofs.YtkcgdnnipohehaaGreatDoor
open Go.RowKit
set_option linter.unusedVariables false
set_option maxRecDepth 100000
set_option maxHeartbeats 6400000
section
section
variable (w : World) {ops : Array Oper} {rest : List Oper} {o : Oper} {a : Act} {Q : Exit → Act → World → Prop}
theorem wpC (s x : Operand) {K : Act → World → Prop} (ho : o.op = .call { callee := .builtin .append, args := #[s, x], argTypes := #[52, 52] })
  (base : Nat) (A : Option Addr) (n c : Nat) (l : List C) (hs : a.eval s = .slice A n c) (hown : w.ownsRow base 87 2 (.slice A n c) n (vC l))
  (A2 : Option Addr) (m c2 : Nat) (l2 : List C) (hx : a.eval x = .slice A2 m c2) (hr : Rd w A2 (vC l2)) (hl : l2.length = m) (hb : n + m ≤ 1099511627776) (hbase : base ≤ w.heap.size)
  (h : ∀ A' c' w', w'.ownsRow base 87 2 (.slice A' (n + m) c') (n + m) (vC (l ++ l2)) → w.grownBy w' (ob A) → (ob A' = ob A ∨ ob A' = some w.heap.size) → K (a.put o.dst (.slice A' (n + m) c')) w') :
  o.wp Tryz.prog a w K Q := by
 obtain ⟨i0, hi, hz0, hz1, hz2⟩ := info_parts infoC
 refine wp_app w s x _ ho base _ i0 _ 2 16 Tryz.underlying52 hi hz0 hz1 hz2 rfl (by omega) A n c _ hs hown A2 m c2 _ hx hr (by rw [vC_length, hl]) (vC_one _) (by unfold maxLen; omega) (by omega) hbase ?_
 intro A' c' w' h1
 rw [← vC_append] at h1
 exact h A' c' w' h1
end
end

section
attribute [local go_sem ↓] Go.wp_at_zero Go.wp_at_succ
theorem l2Corner_s (A : Option Addr) (n c : Nat) (xs : List C) (w : World) (hr : Rd w A (vC xs)) (hl : xs.length = n) (hn : n ≤ 1048576) (hs : ∀ d ∈ xs, small d) :
  Calls Tryz.prog 99 #[.slice A n c] w (RetS w 87 2 (vC (cornS xs))) := by
 have hms : 0 < n → (-1000 ≤ minTo (·.1) xs n ∧ minTo (·.1) xs n ≤ 1000) ∧ (-1000 ≤ minTo (·.2) xs n ∧ minTo (·.2) xs n ≤ 1000) := by
  intro h0
  have := minC_small (by omega) hs
  unfold minC at this
  rwa [hl] at this
 have hV : ∀ px py, (n = 0 ∧ px = 0 ∧ py = 0 ∨ 0 < n ∧ px = minTo (·.1) xs n ∧ py = minTo (·.2) xs n) → mv xs (-px) (-py) = cornS xs := by
  intro px py h
  rcases h with ⟨h1, _, _⟩ | ⟨h1, h2, h3⟩
  ·rw [List.eq_nil_of_length_eq_zero (hl.trans h1)]; rfl
  ·unfold cornS minC; rw [hl, h2, h3]
 have HV := Lib.hid hV
 have HL := Lib.hid hl
 have HS := Lib.hid hs
 have HMS := Lib.hid hms
 have HR := Lib.hid hr
 have hini := own_new w 87 2 0 #[] rfl (by simp [maxLen]) (base := w.heap.size) (Nat.le_refl _)
 have HI0 := Lib.hid hini
 clear hini hl hs hms hr hV
 go_enter Tryz.func99, Tryz.ntmps99
 go_wp2
 go_loopw [4, 5, 6] (fun e4 e5 e6 wr => ∃ (k : Nat) (px py : Int), k ≤ n ∧ e4 = .int .i64 px ∧ e5 = .int .i64 py ∧ e6 = .int .i64 k ∧ (k = 0 ∧ px = 0 ∧ py = 0 ∨ 0 < k ∧ px = minTo (·.1) xs k ∧ py = minTo (·.2) xs k) ∧ Below (w.alloc (.cells #[] 87)).heap.size (w.alloc (.cells #[] 87)) wr) (fun _ _ e6 _ => n - (intOf e6).toNat)
 case atStart => exact ⟨0, 0, 0, Nat.zero_le _, rfl, rfl, rfl, .inl ⟨rfl, rfl, rfl⟩, Below.refl _ _⟩
 case round =>
  obtain ⟨k, px, py, hk, rfl, rfl, rfl, hp, hb⟩ := hrel
  have HP := Lib.hid hp
  clear hp
  have hbw : Below w.heap.size w wr := (by (repeat (first | with_reducible exact Below.refl _ _ | with_reducible assumption | with_reducible apply bel_alloc | with_reducible apply bel_drew | with_reducible apply bel_drewN | ((with_reducible refine bel_set ?_ ?_); rotate_left; (simp <;> omega)) | (with_reducible refine bel_trans ?_ (by with_reducible assumption)))))
  by_cases hlt : k < n
  ·have hkl : k < xs.length := by rw [HL.out]; exact hlt
   have hk0 : (0 : Int) ≤ (k : Int) := by omega
   have hk1 : (k : Int) < (n : Int) := by omega
   obtain ⟨g, off, hA, hg, d1, d2⟩ := RdC.at_ (HR.out.below hbw) hkl
   subst hA
   obtain ⟨p, hp⟩ : ∃ p, xs[k].1 = p := ⟨_, rfl⟩
   obtain ⟨q, hq⟩ : ∃ q, xs[k].2 = q := ⟨_, rfl⟩
   rw [hp] at d1
   rw [hq] at d2
   have S1 : Hid (minTo (·.1) xs (k + 1) = if p < minTo (·.1) xs k then p else minTo (·.1) xs k) := by show minTo (·.1) xs (k + 1) = _; rw [minTo, getD_in xs hkl, hp]
   have S2 : Hid (minTo (·.2) xs (k + 1) = if q < minTo (·.2) xs k then q else minTo (·.2) xs k) := by show minTo (·.2) xs (k + 1) = _; rw [minTo, getD_in xs hkl, hq]
   by_cases hz : k = 0
   ·have M0 : Hid (minTo (·.1) xs k = p ∧ minTo (·.2) xs k = q) := by
     show _ ∧ _
     subst hz
     exact ⟨by show (xs.getD 0 default).1 = p; rw [getD_in xs hkl, hp], by show (xs.getD 0 default).2 = q; rw [getD_in xs hkl, hq]⟩
    have e0 : ((k : Int) == 0) = true := by simp [hz]
    clear hz hp hq
    have T1 : Hid (minTo (·.1) xs (k + 1) = p) := by show _ = _; rw [S1.out]; rw [show minTo (·.1) xs k = p from M0.out.1]; exact ite_self _
    have T2 : Hid (minTo (·.2) xs (k + 1) = q) := by show _ = _; rw [S2.out]; rw [show minTo (·.2) xs k = q from M0.out.2]; exact ite_self _
    go_wp2_with fail
    exact ⟨⟨k + 1, p, q, by omega, rfl, rfl, by go_num, .inr ⟨by omega, T1.out.symm, T2.out.symm⟩, hb⟩, by simp [intOf]; omega⟩
   ·have e0 : ((k : Int) == 0) = false := by simp; omega
    have hkz : ¬ k = 0 := hz
    have hpp : px = minTo (·.1) xs k ∧ py = minTo (·.2) xs k := by
     rcases HP.out with ⟨h1, _, _⟩ | ⟨_, h2, h3⟩
     ·exact absurd h1 hz
     ·exact ⟨h2, h3⟩
    have HPX := Lib.hid hpp.1
    have HPY := Lib.hid hpp.2
    clear hz hp hq hpp
    by_cases h1 : p < px
    ·by_cases h2 : q < py
     ·have T1 : Hid (minTo (·.1) xs (k + 1) = p) := by show _ = _; rw [S1.out, ← HPX.out]; exact if_pos h1
      have T2 : Hid (minTo (·.2) xs (k + 1) = q) := by show _ = _; rw [S2.out, ← HPY.out]; exact if_pos h2
      go_wp2_with fail
      exact ⟨⟨k + 1, p, q, by omega, rfl, rfl, by go_num, .inr ⟨by omega, T1.out.symm, T2.out.symm⟩, hb⟩, by simp [intOf]; omega⟩
     ·have h2d : decide (q < py) = false := by simp; omega
      have T1 : Hid (minTo (·.1) xs (k + 1) = p) := by show _ = _; rw [S1.out, ← HPX.out]; exact if_pos h1
      have T2 : Hid (minTo (·.2) xs (k + 1) = py) := by show _ = _; rw [S2.out, ← HPY.out]; exact if_neg h2
      go_wp2_with fail
      exact ⟨⟨k + 1, p, py, by omega, rfl, rfl, by go_num, .inr ⟨by omega, T1.out.symm, T2.out.symm⟩, hb⟩, by simp [intOf]; omega⟩
    ·have h1d : decide (p < px) = false := by simp; omega
     by_cases h2 : q < py
     ·have T1 : Hid (minTo (·.1) xs (k + 1) = px) := by show _ = _; rw [S1.out, ← HPX.out]; exact if_neg h1
      have T2 : Hid (minTo (·.2) xs (k + 1) = q) := by show _ = _; rw [S2.out, ← HPY.out]; exact if_pos h2
      go_wp2_with fail
      exact ⟨⟨k + 1, px, q, by omega, rfl, rfl, by go_num, .inr ⟨by omega, T1.out.symm, T2.out.symm⟩, hb⟩, by simp [intOf]; omega⟩
     ·have h2d : decide (q < py) = false := by simp; omega
      have T1 : Hid (minTo (·.1) xs (k + 1) = px) := by show _ = _; rw [S1.out, ← HPX.out]; exact if_neg h1
      have T2 : Hid (minTo (·.2) xs (k + 1) = py) := by show _ = _; rw [S2.out, ← HPY.out]; exact if_neg h2
      go_wp2_with fail
      exact ⟨⟨k + 1, px, py, by omega, rfl, rfl, by go_num, .inr ⟨by omega, T1.out.symm, T2.out.symm⟩, hb⟩, by simp [intOf]; omega⟩
  ·obtain rfl : k = n := by omega
   have hk1 : ¬ (k : Int) < (k : Int) := by omega
   have hbnd : -1000 ≤ px ∧ px ≤ 1000 ∧ -1000 ≤ py ∧ py ≤ 1000 := by
    rcases HP.out with ⟨_, h1, h2⟩ | ⟨h0, h1, h2⟩
    ·omega
    ·have := HMS.out h0
     rw [← h1, ← h2] at this
     omega
   obtain ⟨q1, q2, q3, q4⟩ := hbnd
   have HVV := Lib.hid (HV.out px py HP.out)
   have HO0 := Lib.hid (own_keep HI0.out hb)
   clear hb
   go_wp2_with fail
   go_loopw [7, 3] (fun e7 e3 wr2 => ∃ (j cq : Nat) (D : Option Addr), j ≤ k ∧ e7 = .int .i64 j ∧ e3 = .slice D j cq ∧ wr2.ownsRow w.heap.size 87 2 (.slice D j cq) j (vC (mv (xs.take j) (-px) (-py))) ∧ Below w.heap.size w wr2) (fun e7 _ _ => k - (intOf e7).toNat)
   case atStart => exact ⟨0, 0, _, Nat.zero_le _, rfl, rfl, HO0.out, hbw⟩
   case round =>
    clear hbw
    obtain ⟨j, cq, D, hj, rfl, rfl, hown, hb⟩ := hrel
    by_cases hlt : j < k
    ·have hkl : j < xs.length := by rw [HL.out]; exact hlt
     have hj0 : (0 : Int) ≤ (j : Int) := by omega
     have hj1 : (j : Int) < (k : Int) := by omega
     obtain ⟨g, off, hA, hg0, d1, d2⟩ := RdC.at_ HR.out hkl
     subst hA
     have hg : g < wr.heap.size := Nat.lt_of_lt_of_le hg0 hb.size
     replace d1 := (hb.cell (p := ⟨g, off + j * 2, none⟩) hg0).trans d1
     replace d2 := (hb.cell (p := ⟨g, off + j * 2 + 1, none⟩) hg0).trans d2
     have hgD : ¬ (some g = ob D) := fun e => by have := (own_lt hown g e.symm).1; omega
     have hst := mv_take xs (-px) (-py) j hkl
     have hsm := HS.out _ (List.getElem_mem hkl)
     obtain ⟨p, hp⟩ : ∃ p, xs[j].1 = p := ⟨_, rfl⟩
     obtain ⟨q, hq⟩ : ∃ q, xs[j].2 = q := ⟨_, rfl⟩
     unfold small at hsm
     rw [hp, hq] at hsm hst
     rw [hp] at d1
     rw [hq] at d2
     have e1 : IntKind.i64.wrap (p - px) = p - px := Go.IntWalk.i64_in _ (by omega)
     have e2 : IntKind.i64.wrap (q - py) = q - py := Go.IntWalk.i64_in _ (by omega)
     rw [← Int.sub_eq_add_neg, ← Int.sub_eq_add_neg] at hst
     have HST := Lib.hid hst
     have HO := Lib.hid hown
     have hbs := hb.size
     clear hst hown hp hq hsm
     go_wp2_with fail
     (refine wp_region_tailN (C := Gr wr D) 16 (by kernel_rfl) (by kernel_rfl) (Gr.drawn _ _) (fun _ _ h k => h.ext k) ?_; simp only [List.take_succ_cons, List.take_zero, List.drop_succ_cons, List.drop_zero]; (repeat (first | (refine headSkip (by rfl) rfl ?_; simp only [sq1, sq2, sq3]) | (refine headV (v := ?_) (by rfl) rfl (fun w' hcw => ?_) ?_; rotate_left; ((try dsimp only at hcw); have hbc := hcw.cells; go_simp; first | done | with_reducible rfl | fail); simp only [sq1, sq2, sq3]))); unfold wpHead)
     (refine tailK (by rfl) (fun w3 hc3 he3 K hK => ?_); go_simp; refine hK _ _ (hc3.ext (by (repeat (first | with_reducible exact Below.refl _ _ | with_reducible assumption | with_reducible apply bel_alloc | with_reducible apply bel_drew | with_reducible apply bel_drewN | ((with_reducible refine bel_set ?_ ?_); rotate_left; (simp <;> omega)) | (with_reducible refine bel_trans ?_ (by with_reducible assumption)))))) ?_; clear hK K)
     (refine tailK (by rfl) (fun w4 hc4 he4 K hK => ?_); refine wpC _ _ _ rfl w.heap.size D j cq (mv (xs.take j) (-px) (-py)) rfl (own_keep ((own_keep HO.out he3).alloc _) he4) _ 1 1 [(p - px, q - py)] rfl (Rd.below (rd_newC _ _ _ _) he4) rfl (by omega) (by have h2 := he3.size; have h3 := he4.size; simp at h3; omega) ?_; intro A2 c2 w5 hown5 hg5 _; refine hK _ _ (Gr.trans hc4 hg5) ?_; clear hK K; simp only [Act.put, List.setIfInBounds_toArray, List.set_cons_zero, List.set_cons_succ])
     (refine tailK (by rfl) (fun w6 hc6 he6 K hK => ?_); go_simp; refine hK _ _ (hc6) ?_; clear hK K)
     (refine fun w7 hc7 he7 => NoPanic.normal ?_)
     have hb5 : Below w.heap.size w w5 := bel_app (bel_trans (bel_alloc (bel_trans hb he3) _) he4) hg5 (fun g' hg' => ((own_lt HO.out) g' hg').1)
     have HO3 := Lib.hid (own_keep (own_keep hown5 he6) he7)
     clear hown5
     go_wp2
     exact ⟨⟨j + 1, c2, A2, by omega, by go_num, rfl, by rw [HST.out]; exact HO3.out, bel_trans (bel_trans hb5 he6) he7⟩, by simp [intOf]; omega⟩
    ·obtain rfl : j = k := by omega
     rw [List.take_of_length_le (by rw [HL.out]; omega), HVV.out] at hown
     have HO := Lib.hid hown
     have hj1 : ¬ (j : Int) < (j : Int) := by omega
     clear hown
     go_wp2
     go_ret
     exact ⟨_, _, _, rfl, HO.out, hb⟩
end

section
def World.ownsQ (w : World) (base e size g off n c : Nat) (xs : List Value) : Prop :=
 xs.length = n * size ∧ n ≤ c ∧ c ≤ maxLen ∧ base ≤ g ∧ ∃ cur : Array Value, w.heap[g]? = some (.cells cur e (0, 0)) ∧ off + c * size ≤ cur.size ∧ (cur.toList.drop off).take (n * size) = xs
section
variable {w w' : World} {base e size g off n c : Nat} {xs : List Value}
theorem ownQ_of {A : Option Addr} (h : w.ownsRow base e size (.slice A n c) n xs) (hn : 0 < n) : ∃ g, A = some ⟨g, 0, none⟩ ∧ World.ownsQ w base e size g 0 n c xs := by
 rcases h.2 with ⟨_, rfl⟩ | ⟨g, cap, cur, hv, hb, hg, hnc, hcm, hcs, ht⟩
 ·omega
 ·injection hv with h1 h2 h3
  subst h1 h3
  exact ⟨g, rfl, h.1, hnc, hcm, hb, cur, hg, by rw [hcs]; omega, by simpa using ht⟩
end
section
variable (w : World) {ops : Array Oper} {rest : List Oper} {o : Oper} {a : Act} {Q : Exit → Act → World → Prop}
end
end

section
def loopsIn : Code → List Code
 | .loop c => c :: loopsIn c
 | .seq a b => loopsIn a ++ loopsIn b
 | .block _ c => loopsIn c
 | .scope c => loopsIn c
 | .cond _ a b => loopsIn a ++ loopsIn b
 | _ => []
end

section
attribute [local go_sem ↓] Go.wp_at_zero Go.wp_at_succ
theorem own_keptD {w w' : World} {base n c e size : Nat} {A : Option Addr} {xs : List Value} {row : Option Nat} (h : w.ownsRow base e size (.slice A n c) n xs) (hg : w.grownBy w' row) (hn : ∀ g, ob A = some g → row ≠ some g) : w'.ownsRow base e size (.slice A n c) n xs :=
 h.kept hg (by
  rw [ownBlock_slice]
  cases hA : ob A with
  | none => exact .inl rfl
  | some g => right; intro e; exact hn g hA e.symm)
theorem own_mono2D {w : World} {base base' e size n c : Nat} {A : Option Addr} {xs : List Value} (h : w.ownsRow base e size (.slice A n c) n xs) (hb : base' ≤ base) : w.ownsRow base' e size (.slice A n c) n xs := by
 refine ⟨h.1, ?_⟩
 rcases h.2 with hn | ⟨g, cap, cur, hv, hg, hgg, rest⟩
 ·exact .inl hn
 ·exact .inr ⟨g, cap, cur, hv, Nat.le_trans hb hg, hgg, rest⟩
theorem grown_trans {w w1 w2 : World} {row : Option Nat} (h : w.grownBy w1 row) (k : w1.grownBy w2 row) : w.grownBy w2 row :=
 ⟨k.os.trans h.os, k.tape.trans h.tape, k.output.trans h.output, Nat.le_trans h.size k.size, fun i hi hr => (k.block i (Nat.lt_of_lt_of_le hi h.size) hr).trans (h.block i hi hr)⟩
structure FrG (base g : Nat) (w w' : World) : Prop where
 os : w'.os = w.os
 tape : w'.tape = w.tape
 output : w'.output = w.output
 size : w.heap.size ≤ w'.heap.size
 block : ∀ k, k < base → k ≠ g → w'.heap[k]? = w.heap[k]?
theorem FrG.refl (base g : Nat) (w : World) : FrG base g w w := ⟨rfl, rfl, rfl, Nat.le_refl _, fun _ _ _ => rfl⟩
theorem FrG.below {base g : Nat} {w w1 w2 : World} (h : FrG base g w w1) (k : Below w1.heap.size w1 w2) (hb : base ≤ w1.heap.size) : FrG base g w w2 :=
 ⟨k.os.trans h.os, k.tape.trans h.tape, k.output.trans h.output, Nat.le_trans h.size k.size, fun i hi hg => (k.block i (by omega)).trans (h.block i hi hg)⟩
theorem FrG.draw {base g : Nat} {w w1 w2 : World} (h : FrG base g w w1) (k : w1.grownBy w2 (some g)) (hb : base ≤ w1.heap.size) : FrG base g w w2 :=
 ⟨k.os.trans h.os, k.tape.trans h.tape, k.output.trans h.output, Nat.le_trans h.size k.size, fun i hi hg => (k.block i (by omega) (fun e => hg (by injection e))).trans (h.block i hi hg)⟩
theorem FrG.row {base g : Nat} {w w1 w2 : World} {row : Option Nat} (h : FrG base g w w1) (k : w1.grownBy w2 row) (hb : base ≤ w1.heap.size) (hr : ∀ b, row = some b → base ≤ b) : FrG base g w w2 :=
 ⟨k.os.trans h.os, k.tape.trans h.tape, k.output.trans h.output, Nat.le_trans h.size k.size, fun i hi hg => (k.block i (by omega) (fun e => by have := hr i e.symm; omega)).trans (h.block i hi hg)⟩
theorem FrG.grown {g : Nat} {w w1 : World} (h : FrG w.heap.size g w w1) : w.grownBy w1 (some g) := ⟨h.os, h.tape, h.output, h.size, fun k hk hg => h.block k hk (fun e => hg (by rw [e]))⟩
theorem Cur.row {w w' : World} {g : Nat} {A : Option Addr} {n c : Nat} {bs : List UInt8} {row : Option Nat} (h : Cur w g A n c bs) (k : w.grownBy w' row) (h1 : ∀ b, row = some b → b ≠ g) (h2 : 0 < n → ∀ b, row = some b → ob A ≠ some b) : Cur w' g A n c bs := by
 obtain ⟨i, x, hi, hB⟩ := h.blk
 refine ⟨⟨i, x, hi, hB.grown k (fun e => h1 g e.symm rfl)⟩, ?_, h.len, h.ne⟩
 by_cases h0 : 0 < n
 ·exact h.rd.grown k (fun b e r => h2 h0 b r.symm e)
 ·left
  have := h.len
  rw [List.eq_nil_of_length_eq_zero (by omega : bs.length = 0)]
  rfl
def RetShp (w : World) (g : Nat) (A : Option Addr) (n c : Nat) (bs : List UInt8) (e : Ending) (w' : World) : Prop :=
 ∃ D k cD xs, e = .returned (.slice D k cD) ∧ w'.ownsRow w.heap.size 87 2 (.slice D k cD) k (vC xs) ∧ 1 ≤ k ∧ k ≤ 7 ∧ Cur w' g A n c bs ∧ w.grownBy w' (some g)
noncomputable def growLp : Code := ((Tryz.f181.body.map loopsIn).getD []).getD 0 .skip
theorem growLoop {Q : Exit → Act → World → Prop} {s2 s3 s4 s7 s8 s9 s10 s11 s12 s13 s14 s15 s16 s17 s18 s19 s20 s21 s22 s23 s24 s25 s26 s27 s28 s29 s30 s31 s32 s33 s34 s35 s36 s37 s38 s39 s40 s41 s42 s43 s44 s45 s46 s47 s48 s49 s50 s51 s52 s53 s54 s55 s56 s57 s58 s59 s60 s61 s62 : Value} {A D : Option Addr} {n c g cD m base : Nat} {bs : List UInt8} {w : World}
  (hAb : 0 < n → ∀ b, ob A = some b → b < base) (hc : Cur w g A n c bs) (hn : n ≤ 1048576) (hm : 1 ≤ m) (hm7 : m ≤ 7) (hO : w.ownsRow base 87 2 (.slice D 1 cD) 1 (vC [(3, 3)])) (hgb : g < base) (hbase : base ≤ w.heap.size)
  (hexit : ∀ (v7 v8 v9 v12 v13 v14 v15 v16 v17 v18 v19 v20 v21 v22 v23 v24 v25 v26 v27 v28 v29 v30 v31 v32 v33 v34 v35 v36 v37 v38 v39 v40 v41 v42 v43 v44 v45 v46 v47 v48 v49 v50 v51 v52 v53 v54 v55 v56 v57 v58 v59 : Value) (D' : Option Addr) (k c' : Nat) (ys : List C) (w3 : World), w3.ownsRow base 87 2 (.slice D' k c') k (vC ys) → 1 ≤ k → k ≤ 7 → (∀ d ∈ ys, (0 ≤ d.1 ∧ d.1 ≤ 7) ∧ (0 ≤ d.2 ∧ d.2 ≤ 7)) → Cur w3 g A n c bs → FrG base g w w3 → Q (.exit 0) ⟨List.toArray ((.pointer (some ⟨g, 0, none⟩)) :: (.int .i64 (m : Int)) :: s2 :: s3 :: s4 :: (.slice D' k c') :: (.int .i64 (m : Int)) :: v7 :: v8 :: v9 :: s10 :: s11 :: v12 :: v13 :: v14 :: v15 :: v16 :: v17 :: v18 :: v19 :: v20 :: v21 :: v22 :: v23 :: v24 :: v25 :: v26 :: v27 :: v28 :: v29 :: v30 :: v31 :: v32 :: v33 :: v34 :: v35 :: v36 :: v37 :: v38 :: v39 :: v40 :: v41 :: v42 :: v43 :: v44 :: v45 :: v46 :: v47 :: v48 :: v49 :: v50 :: v51 :: v52 :: v53 :: v54 :: v55 :: v56 :: v57 :: v58 :: v59 :: s60 :: s61 :: s62 :: []), []⟩ w3) :
  Code.wp Tryz.prog (Code.loop growLp) Q ⟨List.toArray ((.pointer (some ⟨g, 0, none⟩)) :: (.int .i64 (m : Int)) :: s2 :: s3 :: s4 :: (.slice D 1 cD) :: (.int .i64 1) :: s7 :: s8 :: s9 :: s10 :: s11 :: s12 :: s13 :: s14 :: s15 :: s16 :: s17 :: s18 :: s19 :: s20 :: s21 :: s22 :: s23 :: s24 :: s25 :: s26 :: s27 :: s28 :: s29 :: s30 :: s31 :: s32 :: s33 :: s34 :: s35 :: s36 :: s37 :: s38 :: s39 :: s40 :: s41 :: s42 :: s43 :: s44 :: s45 :: s46 :: s47 :: s48 :: s49 :: s50 :: s51 :: s52 :: s53 :: s54 :: s55 :: s56 :: s57 :: s58 :: s59 :: s60 :: s61 :: s62 :: []), []⟩ w := by
 have HC0 := Lib.hid hc
 have HO0 := Lib.hid hO
 have HX := Lib.hid @hexit
 clear hc hO hexit
 conv => arg 2; arg 1; whnf
 go_loopw [6, 5] (fun e6 e5 wr => ∃ (i k cq : Nat) (E : Option Addr) (ys : List C), i ≤ m ∧ 1 ≤ i ∧ e6 = .int .i64 i ∧ e5 = .slice E k cq ∧ 1 ≤ k ∧ k ≤ i ∧ wr.ownsRow base 87 2 (.slice E k cq) k (vC ys) ∧ (∀ d ∈ ys, (0 ≤ d.1 ∧ d.1 ≤ 7) ∧ (0 ≤ d.2 ∧ d.2 ≤ 7)) ∧ Cur wr g A n c bs ∧ FrG base g w wr) (fun e6 _ _ => m - (intOf e6).toNat)
 case atStart => exact ⟨1, 1, cD, D, [(3, 3)], hm, Nat.le_refl _, rfl, rfl, Nat.le_refl _, Nat.le_refl _, HO0.out, by simp, HC0.out, FrG.refl _ _ _⟩
 case round =>
  clear HC0 HO0
  obtain ⟨i, k, cq, E, ys, hi, hi1', rfl, rfl, hk1, hki, hO, hin, hc, hfr⟩ := hrel
  have HO := Lib.hid hO
  have HIN := Lib.hid hin
  have HC := Lib.hid hc
  have HFR := Lib.hid hfr
  clear hO hin hc hfr
  by_cases hlt : i < m
  ·have hi0 : (0 : Int) ≤ (i : Int) := by omega
   have hi1 : (i : Int) < (m : Int) := by omega
   go_wp2_with fail
   refine (l1Below_s A n c g k bs wr HC.out hn hk1 (by omega)).mono ?_
   rintro e w1 ⟨r, rfl, hr, hc1, hg1⟩
   have hEg : ∀ b, ob E = some b → b ≠ g := fun b e r => by have := (own_lt HO.out b e).1; omega
   have hO1 := own_keptD HO.out hg1 (fun b e r => hEg b e (by injection r with r; exact r.symm))
   have hyl : ys.length = k := by have := own_len hO1; rw [vC_length] at this; omega
   have hrl : r < ys.length := by omega
   have hr0 : (0 : Int) ≤ (r : Int) := by omega
   have hrk : (r : Int) < (k : Int) := by omega
   obtain ⟨ge, oe, hEe, hge, d1, d2⟩ := RdC.at_ (Rd.of_own hO1) hrl
   obtain ⟨px, hpx⟩ : ∃ px, ys[r].1 = px := ⟨_, rfl⟩
   obtain ⟨py, hpy⟩ : ∃ py, ys[r].2 = py := ⟨_, rfl⟩
   have hpin := HIN.out _ (List.getElem_mem hrl)
   rw [hpx] at d1 hpin
   rw [hpy] at d2 hpin
   have hbs1 : base ≤ wr.heap.size := Nat.le_trans hbase HFR.out.size
   have hbs2 : base ≤ w1.heap.size := Nat.le_trans hbs1 hg1.size
   have HFR1 := Lib.hid (HFR.out.draw hg1 hbs1)
   have HC1 := Lib.hid hc1
   have HO1 := Lib.hid hO1
   have HYL := Lib.hid hyl
   subst hEe
   clear hc1 hg1 hO1 hyl hpx hpy HFR HO HC hEg
   go_wp2_with fail
   have hbx := Blk.new w1 87 #[.int .i64 px, .int .i64 py]
   refine (l1Below_s A n c g 4 bs _ (HC1.out.below (bel_alloc (Below.refl _ _) _)) hn (by omega) (by omega)).mono ?_
   rintro e w2 ⟨d, rfl, hd, hc2, hg2⟩
   have hbx2 := hbx.grown hg2 (fun e => by injection e with e; omega)
   have x0 : w2.cell? ⟨w1.heap.size, 0, none⟩ = some (.int .i64 px) := by simpa using hbx2.cell 0
   have x1 : w2.cell? ⟨w1.heap.size, 1, none⟩ = some (.int .i64 py) := by simpa using hbx2.cell 1
   have xl := hbx2.lt
   have hws : (w1.alloc (.cells #[.int .i64 px, .int .i64 py] 87)).heap.size = w1.heap.size + 1 := by simp
   have HFR2 := Lib.hid ((HFR1.out.below (bel_alloc (Below.refl _ _) (.cells #[.int .i64 px, .int .i64 py] 87)) hbs2).draw hg2 (by omega))
   have HO2 := Lib.hid (own_keptD (own_keep HO1.out (bel_alloc (Below.refl _ _) (.cells #[.int .i64 px, .int .i64 py] 87))) hg2 (fun b e r => by have := (own_lt HO1.out b e).1; injection r with r; omega))
   have HC2 := Lib.hid hc2
   have hbs3 : base ≤ w2.heap.size := by have := hg2.size; omega
   obtain ⟨da, db, e1, e2, hd1, hd2⟩ : ∃ da db : Int, ((1 : Int) - (d : Int)).tmod 2 = da ∧ ((2 : Int) - (d : Int)).tmod 2 = db ∧ (-1 ≤ da ∧ da ≤ 1) ∧ (-1 ≤ db ∧ db ≤ 1) := by
    rcases (by omega : d = 0 ∨ d = 1 ∨ d = 2 ∨ d = 3) with rfl | rfl | rfl | rfl
    ·exact ⟨1, 0, by decide, by decide, by omega, by omega⟩
    ·exact ⟨0, 1, by decide, by decide, by omega, by omega⟩
    ·exact ⟨-1, 0, by decide, by decide, by omega, by omega⟩
    ·exact ⟨0, -1, by decide, by decide, by omega, by omega⟩
   obtain ⟨a0, ha0⟩ : ∃ a0, px + da = a0 := ⟨_, rfl⟩
   obtain ⟨b0, hb0⟩ : ∃ b0, py + db = b0 := ⟨_, rfl⟩
   have q1 : IntKind.i64.wrap ((1 : Int) - (d : Int)) = (1 : Int) - (d : Int) := Go.IntWalk.i64_in _ (by omega)
   have q2 : IntKind.i64.wrap ((2 : Int) - (d : Int)) = (2 : Int) - (d : Int) := Go.IntWalk.i64_in _ (by omega)
   have q3 : IntKind.i64.wrap a0 = a0 := Go.IntWalk.i64_in _ (by omega)
   have q4 : IntKind.i64.wrap b0 = b0 := Go.IntWalk.i64_in _ (by omega)
   have q5 : IntKind.i64.wrap da = da := Go.IntWalk.i64_in _ (by omega)
   have q6 : IntKind.i64.wrap db = db := Go.IntWalk.i64_in _ (by omega)
   have HPI := Lib.hid hpin
   clear hc2 hg2 hbx hbx2 HFR1 HO1 HC1 d1 d2 hge hd hpin hws
   go_wp2_with fail
   have hby := Blk.new w2 87 #[.int .i64 a0, .int .i64 b0]
   obtain ⟨w3, hw3⟩ : ∃ w3, w2.alloc (.cells #[.int .i64 a0, .int .i64 b0] 87) = w3 := ⟨_, rfl⟩
   have hb23 : Below w2.heap.size w2 w3 := by rw [← hw3]; exact bel_alloc (Below.refl _ _) _
   rw [hw3] at hby ⊢
   have HBY := Lib.hid hby
   have HB23 := Lib.hid hb23
   clear hby hb23 hw3 e1 e2 ha0 hb0 q1 q2 q3 q4 q5 q6 x0 x1 xl
   by_cases hin1 : 0 ≤ a0 ∧ a0 ≤ 7
   ·refine (l1In_t a0 0 7 w3 hin1.1 hin1.2).mono ?_
    rintro e w4 ⟨rfl, hb4⟩
    have HB4 := Lib.hid (bel_trans HB23.out hb4)
    have hby4 := HBY.out.below hb4
    have y1 : w4.cell? ⟨w2.heap.size, 1, none⟩ = some (.int .i64 b0) := by simpa using hby4.cell 1
    have yl := hby4.lt
    have HBY4 := Lib.hid hby4
    clear hb4 hby4 HBY
    go_wp2_with fail
    by_cases hin2 : 0 ≤ b0 ∧ b0 ≤ 7
    ·refine (l1In_t b0 0 7 w4 hin2.1 hin2.2).mono ?_
     rintro e w5 ⟨rfl, hb5⟩
     have HB5 := Lib.hid (bel_trans HB4.out hb5)
     have hby5 := HBY4.out.below hb5
     have z0 : w5.cell? ⟨w2.heap.size, 0, none⟩ = some (.int .i64 a0) := by simpa using hby5.cell 0
     have z1 : w5.cell? ⟨w2.heap.size, 1, none⟩ = some (.int .i64 b0) := by simpa using hby5.cell 1
     have zl := hby5.lt
     have HBY5 := Lib.hid hby5
     have HO5 := Lib.hid (own_keep HO2.out HB5.out)
     clear hb5 hby5 y1 yl HBY4
     go_wp2_with fail
     refine (HasCell_s _ k cq ys a0 b0 w5 (Rd.of_own HO5.out) HYL.out (by omega)).mono ?_
     rintro e w6 ⟨rfl, hb6⟩
     have HB6 := Lib.hid (bel_trans HB5.out hb6)
     have hby6 := HBY5.out.below hb6
     have z0 : w6.cell? ⟨w2.heap.size, 0, none⟩ = some (.int .i64 a0) := by simpa using hby6.cell 0
     have z1 : w6.cell? ⟨w2.heap.size, 1, none⟩ = some (.int .i64 b0) := by simpa using hby6.cell 1
     have zl := hby6.lt
     have HO6 := Lib.hid (own_keep HO5.out hb6)
     clear hb6 hby6 HO5
     cases hh : hasC ys a0 b0 with
     | true =>
      clear z0 z1 zl
      go_wp2_with fail
      exact ⟨⟨i + 1, k, cq, _, ys, by omega, by omega, by go_num, rfl, hk1, by omega, HO6.out, HIN.out, HC2.out.below HB6.out, HFR2.out.below HB6.out hbs3⟩, by simp [intOf]; omega⟩
     | false =>
      clear hh
      go_wp2_with (at_builtin; go_must (refine app_C _ rfl _ _ rfl base _ _ _ ys rfl (HO6.out.alloc _) _ _ _ [(a0, b0)] rfl (rd_newC _ _ _ _) rfl (by omega) (by have := HB6.out.size; simp; omega) ?_); intro D6 c6 w8 ho6 hg6 hat6; have HO8 := Lib.hid ho6; have HG8 := Lib.hid hg6; clear ho6 hg6 hat6)
      have hfr8 : FrG base g w w8 := ((HFR2.out.below HB6.out hbs3).below (bel_alloc (Below.refl _ _) _) (by have := HB6.out.size; omega)).row HG8.out (by have := HB6.out.size; simp; omega) (fun b e => (own_lt HO6.out b e).1)
      have hc8 : Cur w8 g A n c bs := ((HC2.out.below HB6.out).below (bel_alloc (Below.refl _ _) _)).row HG8.out (fun b e => by have := (own_lt HO6.out b e).1; omega) (fun h0 b e r => by have h1 := (own_lt HO6.out b e).1; have h2 := hAb h0 b r; omega)
      have hin8 : ∀ d ∈ ys ++ [(a0, b0)], (0 ≤ d.1 ∧ d.1 ≤ 7) ∧ (0 ≤ d.2 ∧ d.2 ≤ 7) := fun d hd => by
       rcases List.mem_append.1 hd with h | h
       ·exact HIN.out d h
       ·simp only [List.mem_singleton] at h; subst h; exact ⟨hin1, hin2⟩
      exact ⟨⟨i + 1, k + 1, c6, D6, _, by omega, by omega, by go_num, rfl, by omega, by omega, HO8.out, hin8, hc8, hfr8⟩, by simp [intOf]; omega⟩
    ·refine (l1In_f b0 0 7 w4 hin2).mono ?_
     rintro e w5 ⟨rfl, hb5⟩
     have HB5 := Lib.hid (bel_trans HB4.out hb5)
     clear hb5 y1 yl HBY4
     go_wp2_with fail
     exact ⟨⟨i + 1, k, cq, _, ys, by omega, by omega, by go_num, rfl, hk1, by omega, own_keep HO2.out HB5.out, HIN.out, HC2.out.below HB5.out, HFR2.out.below HB5.out hbs3⟩, by simp [intOf]; omega⟩
   ·refine (l1In_f a0 0 7 w3 hin1).mono ?_
    rintro e w4 ⟨rfl, hb4⟩
    have HB4 := Lib.hid (bel_trans HB23.out hb4)
    clear hb4
    go_wp2_with fail
    exact ⟨⟨i + 1, k, cq, _, ys, by omega, by omega, by go_num, rfl, hk1, by omega, own_keep HO2.out HB4.out, HIN.out, HC2.out.below HB4.out, HFR2.out.below HB4.out hbs3⟩, by simp [intOf]; omega⟩
  ·obtain rfl : i = m := by omega
   have hi1 : ¬ (i : Int) < (i : Int) := by omega
   go_wp2_with fail
   exact HX.out _ _ _ _ _ _ _ _ _ _ _ _ _ _ _ _ _ _ _ _ _ _ _ _ _ _ _ _ _ _ _ _ _ _ _ _ _ _ _ _ _ _ _ _ _ _ _ _ _ _ _ _ _ _ _ _ HO.out hk1 (by omega) HIN.out HC.out HFR.out
theorem cornS_len2 (s : List C) : (cornS s).length = s.length := by unfold cornS; rw [mv_len]
theorem l2Grow_s (A : Option Addr) (n c g m : Nat) (bs : List UInt8) (w : World) (hc : Cur w g A n c bs) (hn : n ≤ 1048576) (hm : 1 ≤ m) (hm7 : m ≤ 7) :
  Calls Tryz.prog 181 #[.pointer (some ⟨g, 0, none⟩), .int .i64 (m : Int)] w (RetShp w g A n c bs) := by
 have hgl : g < w.heap.size := by obtain ⟨i, x, hi, hB⟩ := hc.blk; exact hB.lt
 have hAb : 0 < n → ∀ b, ob A = some b → b < w.heap.size := fun h0 b e => by
  obtain ⟨gb, off, hA, hgb, _⟩ := RdB.at_ hc.rd (show 0 < bs.length by rw [hc.len]; exact h0)
  subst hA
  simp only [ob, Option.map_some, Option.some.injEq] at e
  omega
 have HC := Lib.hid (hc.below (bel_alloc (Below.refl _ _) (.cells #[.int .i64 3, .int .i64 3] 87)))
 have HAB := Lib.hid hAb
 have HO0 : Hid ((w.alloc (.cells #[.int .i64 3, .int .i64 3] 87)).ownsRow w.heap.size 87 2 (.slice (some ⟨w.heap.size, 0, none⟩) 1 1) 1 (vC [((3 : Int), (3 : Int))])) := own_newC w 87 3 3 (Nat.le_refl _)
 clear hc hAb
 go_enter Tryz.func181, Tryz.ntmps181
 go_wp2_with fail
 refine growLoop HAB.out HC.out hn hm hm7 HO0.out hgl (by simp) ?_
 intro _ _ _ _ _ _ _ _ _ _ _ _ _ _ _ _ _ _ _ _ _ _ _ _ _ _ _ _ _ _ _ _ _ _ _ _ _ _ _ _ _ _ _ _ _ _ _ _ _ _ _ D k c' ys w3 hO hk1 hk7 hin hc3 hfr
 have HO := Lib.hid hO
 have HIN := Lib.hid hin
 have HC3 := Lib.hid hc3
 have hfr3 : FrG w.heap.size g w w3 := ⟨hfr.os, hfr.tape, hfr.output, Nat.le_trans (by simp) hfr.size, fun b hb hg => (hfr.block b hb hg).trans (Below.heap_alloc w _ b hb)⟩
 have HFR := Lib.hid hfr3
 have hyl : ys.length = k := by have := own_len hO; rw [vC_length] at this; omega
 have HYL := Lib.hid hyl
 clear hO hin hc3 hfr hfr3 hyl
 go_wp2_with fail
 refine (SortCells_s D k c' ys w3 (Rd.of_own HO.out) HYL.out (by omega)).mono ?_
 rintro e w4 ⟨D4, k4, c4, rfl, hO4, hb4⟩
 have hl4 : (sortC ys).length = k4 := by have := own_len hO4; rw [vC_length] at this; omega
 have hk4 := sortC_len ys
 have hk41 := sortC_ne (s := ys) (by rw [HYL.out]; omega)
 have HO4 := Lib.hid hO4
 have HB4 := Lib.hid hb4
 have HL4 := Lib.hid hl4
 have hk4b : 1 ≤ k4 ∧ k4 ≤ 7 := by have := HYL.out; omega
 have hsm : ∀ d ∈ sortC ys, small d := fun d hd => by
  have h := HIN.out d ((sortC_mem ys d).1 hd)
  unfold small
  omega
 have HSM := Lib.hid hsm
 clear hO4 hb4 hl4 hk4 hk41 hsm
 go_wp2_with fail
 refine (l2Corner_s D4 k4 c4 (sortC ys) w4 (Rd.of_own HO4.out) HL4.out (by omega) HSM.out).mono ?_
 rintro e w5 ⟨D5, k5, c5, rfl, hO5, hb5⟩
 obtain rfl : k5 = k4 := by have := own_len hO5; rw [vC_length, cornS_len2, HL4.out] at this; omega
 have hsz3 : w.heap.size ≤ w3.heap.size := HFR.out.size
 have hsz4 : w.heap.size ≤ w4.heap.size := Nat.le_trans hsz3 HB4.out.size
 have HO5 := Lib.hid (own_mono2D hO5 hsz4)
 have HC5 := Lib.hid ((HC3.out.below HB4.out).below hb5)
 have HF5 := Lib.hid ((HFR.out.below HB4.out hsz3).below hb5 hsz4).grown
 clear hO5 hb5
 go_wp2_with fail
 go_ret
 exact ⟨D5, k5, c5, _, rfl, HO5.out, by omega, by omega, HC5.out, HF5.out⟩
theorem l2Shape_s (A : Option Addr) (n c g : Nat) (bs : List UInt8) (w : World) (hc : Cur w g A n c bs) (hn : n ≤ 1048576) :
  Calls Tryz.prog 143 #[.pointer (some ⟨g, 0, none⟩)] w (RetShp w g A n c bs) := by
 have HC := Lib.hid hc
 clear hc
 go_enter Tryz.func143, Tryz.ntmps143
 go_wp2_with fail
 refine (l1Below_s A n c g 7 bs w HC.out hn (by omega) (by omega)).mono ?_
 rintro e w1 ⟨q, rfl, hq, hc1, hg1⟩
 have HC1 := Lib.hid hc1
 have HG1 := Lib.hid hg1
 obtain ⟨m, hm⟩ : ∃ m, 1 + q = m := ⟨_, rfl⟩
 have hmI : (1 : Int) + (q : Int) = (m : Int) := by omega
 have em : IntKind.i64.wrap (m : Int) = (m : Int) := Go.IntWalk.i64_in _ (by omega)
 have hm1 : 1 ≤ m ∧ m ≤ 7 := by omega
 clear hc1 hg1 hm hq
 go_wp2_with fail
 refine (l2Grow_s A n c g m bs w1 HC1.out hn hm1.1 hm1.2).mono ?_
 rintro e w2 ⟨D, k, cD, xs, rfl, hO, hk1, hk7, hc2, hg2⟩
 have HO := Lib.hid (own_mono2D hO HG1.out.size)
 have HC2 := Lib.hid hc2
 have HG2 := Lib.hid (grown_trans HG1.out hg2)
 clear hO hc2 hg2
 go_wp2_with fail
 go_ret
 exact ⟨D, k, cD, xs, rfl, HO.out, hk1, hk7, HC2.out, HG2.out⟩
end

section
attribute [local go_sem ↓] Go.wp_at_zero Go.wp_at_succ
def RetAny (w : World) (g : Nat) (A : Option Addr) (n c : Nat) (bs : List UInt8) (e : Ending) (w' : World) : Prop :=
 ∃ D k cD xs, e = .returned (.slice D k cD) ∧ Rd w' D (vC xs) ∧ xs.length = k ∧ k ≤ 8 ∧ k ≤ cD ∧ Cur w' g A n c bs ∧ w.grownBy w' (some g) ∧ ∀ b, ob D = some b → b ≠ g ∧ w.heap.size ≤ b
theorem own_capD {w : World} {base e n c size : Nat} {A : Option Addr} {xs : List Value} (h : w.ownsRow base e size (.slice A n c) n xs) : n ≤ c := by
 rcases h.2 with ⟨hv, hn⟩ | ⟨g, cap, cur, hv, hb, hg, hnc, _⟩
 ·omega
 ·injection hv with h1 h2 h3
  omega
theorem own_someD {w : World} {base e n c size : Nat} {A : Option Addr} {xs : List Value} (h : w.ownsRow base e size (.slice A n c) n xs) (hn : 1 ≤ n) : ∃ g, A = some ⟨g, 0, none⟩ ∧ base ≤ g ∧ g < w.heap.size := by
 rcases h.2 with ⟨hv, h0⟩ | ⟨g, cap, cur, hv, hb, hg, hnc, _⟩
 ·omega
 ·injection hv with h1 h2 h3
  exact ⟨g, h1, hb, (Array.getElem?_eq_some_iff.1 hg).1⟩
theorem rd_tail {w : World} {g c : Nat} {xs : List C} (h : Rd w (some ⟨g, 0, none⟩) (vC xs)) (hl : xs.length ≤ c) (h1 : ¬c = 1) : Rd w (some ⟨g, 0 + 2, none⟩) (vC (xs.drop 1)) := by
 have h2 := Rd.drop h 2 (2 * c) (by rw [vC_length]; omega)
 rw [if_neg (by omega)] at h2
 have e2 : (some ⟨g, 0, none⟩ : Option Addr).map (·.add 2) = some ⟨g, 0 + 2, none⟩ := by simp only [Option.map_some]; unfold Addr.add; split <;> simp_all
 rw [e2] at h2
 cases xs with
 | nil => exact h2
 | cons x xs => exact h2
def RetPick (w : World) (g : Nat) (A : Option Addr) (n c : Nat) (bs : List UInt8) (l : List Int) (e : Ending) (w' : World) : Prop :=
 ∃ v, e = .returned (.int .i64 v) ∧ v ∈ l ∧ Cur w' g A n c bs ∧ w.grownBy w' (some g)
theorem l1PickInt_s (A B : Option Addr) (n c g m d : Nat) (l : List Int) (bs : List UInt8) (w : World) (hc : Cur w g A n c bs) (hn : n ≤ 1048576) (hr : Rd w B (vI l)) (hl : l.length = m) (hm : 1 ≤ m) (hm2 : m ≤ 256) (hB : ∀ b, ob B = some b → b ≠ g) :
  Calls Tryz.prog 144 #[.pointer (some ⟨g, 0, none⟩), .slice B m d] w (RetPick w g A n c bs l) := by
 have HC := Lib.hid hc
 have HR := Lib.hid hr
 have HL := Lib.hid hl
 clear hc hr hl
 go_enter Tryz.func144, Tryz.ntmps144
 go_wp2_with fail
 refine (l1Below_s A n c g m bs w HC.out hn hm hm2).mono ?_
 rintro e w2 ⟨q, rfl, hq, hc2, hg2⟩
 have hr2 := HR.out.grown hg2 (fun b e r => hB b e (Option.some.inj r))
 obtain ⟨g1, o1, rfl, hg1, hx⟩ := RdI.at_ hr2 (show q < l.length by rw [HL.out]; exact hq)
 have HM := Lib.hid (List.getElem_mem (show q < l.length by rw [HL.out]; exact hq))
 obtain ⟨v, hv⟩ : ∃ v, l[q]'(by rw [HL.out]; exact hq) = v := ⟨_, rfl⟩
 rw [hv] at hx HM
 have hq0 : (0 : Int) ≤ (q : Int) := by omega
 have hq1 : (q : Int) < (m : Int) := by omega
 have HC2 := Lib.hid hc2
 have HG2 := Lib.hid hg2
 clear hc2 hg2 hr2 hv hq
 go_wp2_with fail
 go_ret
 exact ⟨v, rfl, HM.out, HC2.out, HG2.out⟩
theorem l2Any_s (A : Option Addr) (n c g : Nat) (bs : List UInt8) (w : World) (hc : Cur w g A n c bs) (hn : n ≤ 1048576) :
  Calls Tryz.prog 95 #[.pointer (some ⟨g, 0, none⟩)] w (RetAny w g A n c bs) := by
 have hgl : g < w.heap.size := by obtain ⟨i, x, hi, hB⟩ := hc.blk; exact hB.lt
 have hAb : 0 < n → ∀ b, ob A = some b → b < w.heap.size := fun h0 b e => by
  obtain ⟨gb, off, hA, hgb, _⟩ := RdB.at_ hc.rd (show 0 < bs.length by rw [hc.len]; exact h0)
  subst hA
  simp only [ob, Option.map_some, Option.some.injEq] at e
  omega
 have HC := Lib.hid hc
 have HAB := Lib.hid hAb
 clear hc hAb
 go_enter Tryz.func95, Tryz.ntmps95
 go_wp2_with fail
 refine (l2Shape_s A n c g bs w HC.out hn).mono ?_
 rintro e w1 ⟨D, k, cD, xs, rfl, hO, hk1, hk7, hc1, hg1⟩
 have HO1 := Lib.hid hO
 have HC1 := Lib.hid hc1
 have HG1 := Lib.hid hg1
 have hxl : xs.length = k := by have := own_len hO; rw [vC_length] at this; omega
 have HXL := Lib.hid hxl
 have hcap := own_capD hO
 clear hO hc1 hg1 hxl
 go_wp2_with fail
 refine (l1Below_s A n c g 12 bs w1 HC1.out hn (by omega) (by omega)).mono ?_
 rintro e w2 ⟨q, rfl, hq, hc2, hg2⟩
 have hDg : ∀ b, ob D = some b → b ≠ g := fun b e => by have := (own_lt HO1.out b e).1; omega
 have HDG := Lib.hid hDg
 have HO2 := Lib.hid (own_keptD HO1.out hg2 (fun b e r => hDg b e (by injection r with r; exact r.symm)))
 have HC2 := Lib.hid hc2
 have HG2 := Lib.hid (grown_trans HG1.out hg2)
 have hsz2 : w.heap.size ≤ w2.heap.size := HG2.out.size
 clear hc2 hg2 HO1 HC1 HG1 hDg
 by_cases h0 : q = 0
 ·have e0 : ((q : Int) == 0) = true := by simp [h0]
  clear h0 hq
  go_wp2_with fail
  refine (l1Below_s A n c g 9 bs w2 HC2.out hn (by omega) (by omega)).mono ?_
  rintro e w3 ⟨q1, rfl, hq1, hc3, hg3⟩
  have HC3 := Lib.hid hc3
  have HG3 := Lib.hid (grown_trans HG2.out hg3)
  have HO3 := Lib.hid (own_keptD HO2.out hg3 (fun b e r => HDG.out b e (by injection r with r; exact r.symm)))
  have w1' : IntKind.i64.wrap ((q1 : Int) - 1) = (q1 : Int) - 1 := Go.IntWalk.i64_in _ (by omega)
  clear hc3 hg3
  go_wp2_with fail
  refine (l1Below_s A n c g 9 bs w3 HC3.out hn (by omega) (by omega)).mono ?_
  rintro e w4 ⟨q2, rfl, hq2, hc4, hg4⟩
  have HC4 := Lib.hid hc4
  have HG4 := Lib.hid (grown_trans HG3.out hg4)
  have HO4 := Lib.hid (own_keptD HO3.out hg4 (fun b e r => HDG.out b e (by injection r with r; exact r.symm)))
  have hsz4 : w.heap.size ≤ w4.heap.size := HG4.out.size
  clear hc4 hg4
  go_wp2_with (at_builtin; go_must (refine app_C _ rfl _ _ rfl w.heap.size _ _ _ xs rfl (HO4.out.alloc _) _ _ _ [((q1 : Int) - 1, (q2 : Int))] rfl (rd_newC _ _ _ _) rfl (by omega) (by simp; omega) ?_); intro D6 c6 w8 ho6 hg6 hat6; have HO8 := Lib.hid ho6; have HG8 := Lib.hid hg6; clear ho6 hg6 hat6)
  go_ret
  have hlt : ∀ b, ob D = some b → w.heap.size ≤ b := fun b e => (own_lt HO4.out b e).1
  have hfr : FrG w.heap.size g w w8 := (((FrG.refl _ g w).draw HG4.out (Nat.le_refl _)).below (bel_alloc (Below.refl _ _) _) hsz4).row HG8.out (by simp; omega) hlt
  have hc8 : Cur w8 g A n c bs := (HC4.out.below (bel_alloc (Below.refl _ _) _)).row HG8.out (fun b e => HDG.out b e) (fun h0 b e r => by have h1 := hlt b e; have h2 := HAB.out h0 b r; omega)
  exact ⟨D6, k + 1, c6, _, rfl, Rd.of_own HO8.out, by have := HXL.out; simp; omega, by omega, own_capD HO8.out, hc8, hfr.grown, fun b e => by have := (own_lt HO8.out b e).1; omega⟩
 ·have e0 : ((q : Int) == 0) = false := by simp only [beq_eq_false_iff_ne]; omega
  by_cases h1 : q = 1
  ·have e1 : ((q : Int) == 1) = true := by simp [h1]
   clear h0 h1 hq
   go_wp2_with fail
   refine (l1Below_s A n c g 8 bs w2 HC2.out hn (by omega) (by omega)).mono ?_
   rintro e w3 ⟨q1, rfl, hq1, hc3, hg3⟩
   have HC3 := Lib.hid hc3
   have HG3 := Lib.hid (grown_trans HG2.out hg3)
   have HO3 := Lib.hid (own_keptD HO2.out hg3 (fun b e r => HDG.out b e (by injection r with r; exact r.symm)))
   clear hc3 hg3
   go_wp2_with fail
   refine (l1Below_s A n c g 8 bs w3 HC3.out hn (by omega) (by omega)).mono ?_
   rintro e w4 ⟨q2, rfl, hq2, hc4, hg4⟩
   have HC4 := Lib.hid hc4
   have HG4 := Lib.hid (grown_trans HG3.out hg4)
   have HO4 := Lib.hid (own_keptD HO3.out hg4 (fun b e r => HDG.out b e (by injection r with r; exact r.symm)))
   have hsz4 : w.heap.size ≤ w4.heap.size := HG4.out.size
   clear hc4 hg4
   go_wp2_with (at_builtin; go_must (refine app_C _ rfl _ _ rfl w.heap.size _ _ _ xs rfl (HO4.out.alloc _) _ _ _ [((q1 : Int), (q2 : Int))] rfl (rd_newC _ _ _ _) rfl (by omega) (by simp; omega) ?_); intro D6 c6 w8 ho6 hg6 hat6; have HO8 := Lib.hid ho6; have HG8 := Lib.hid hg6; clear ho6 hg6 hat6)
   have hlt : ∀ b, ob D = some b → w.heap.size ≤ b := fun b e => (own_lt HO4.out b e).1
   have HFR := Lib.hid ((((FrG.refl _ g w).draw HG4.out (Nat.le_refl _)).below (bel_alloc (Below.refl _ _) _) hsz4).row HG8.out (by simp; omega) hlt)
   have HC8 := Lib.hid (Cur.row (HC4.out.below (bel_alloc (Below.refl _ _) _)) HG8.out (fun b e => HDG.out b e) (fun h0 b e r => by have h1 := hlt b e; have h2 := HAB.out h0 b r; omega))
   have hsz8 : w.heap.size ≤ w8.heap.size := HFR.out.size
   refine (SortCells_s D6 (k + 1) c6 (xs ++ [((q1 : Int), (q2 : Int))]) w8 (Rd.of_own HO8.out) (by have := HXL.out; simp; omega) (by omega)).mono ?_
   rintro e w9 ⟨D9, k9, c9, rfl, ho9, hb9⟩
   have hl9 := own_len ho9
   have hx9 : (sortC (xs ++ [((q1 : Int), (q2 : Int))])).length ≤ k + 1 := by have h1 := sortC_len (xs ++ [((q1 : Int), (q2 : Int))]); have := HXL.out; simp at h1; omega
   rw [vC_length] at hl9
   have HO9 := Lib.hid ho9
   have HB9 := Lib.hid hb9
   have HX9 := Lib.hid hx9
   clear ho9 hb9 hx9
   go_wp2_with fail
   go_ret
   exact ⟨D9, k9, c9, _, rfl, Rd.of_own HO9.out, by omega, by have := HX9.out; omega, own_capD HO9.out, HC8.out.below HB9.out, (HFR.out.below HB9.out hsz8).grown, fun b e => by have := (own_lt HO9.out b e).1; omega⟩
  ·have e1 : ((q : Int) == 1) = false := by simp only [beq_eq_false_iff_ne]; omega
   by_cases h2 : q = 2
   ·have e2 : ((q : Int) == 2) = true := by simp [h2]
    clear h0 h1 h2 hq
    obtain ⟨gD, hD, hgD, hgl2⟩ := own_someD HO2.out hk1
    subst hD
    go_wp2_with fail
    ·have e1 : k = 1 := by omega
     go_ret
     exact ⟨_, k - 1, _, [], rfl, .inl rfl, by rw [e1]; rfl, by omega, by omega, HC2.out, HG2.out, fun b e => by simp only [ob, Option.map_some, Option.some.injEq] at e; omega⟩
    ·go_ret
     exact ⟨_, k - 1, cD - 1, xs.drop 1, rfl, rd_tail (Rd.of_own HO2.out) (by rw [HXL.out]; exact hcap) h, by rw [List.length_drop, HXL.out], by omega, by omega, HC2.out, HG2.out, fun b e => by simp only [ob, Option.map_some, Option.some.injEq] at e; omega⟩
   ·have e2 : ((q : Int) == 2) = false := by simp only [beq_eq_false_iff_ne]; omega
    by_cases h3 : q = 3
    ·have e3 : ((q : Int) == 3) = true := by simp [h3]
     clear h0 h1 h2 h3 hq
     obtain ⟨gD, hD, hgD, hgl2⟩ := own_someD HO2.out hk1
     subst hD
     go_wp2_with fail
     refine (l1PickInt_s A (some ⟨w2.heap.size, 0, none⟩) n c g 3 3 [-1, 8, 9223372036854775807] bs _ (HC2.out.below (bel_alloc (Below.refl _ _) _)) hn (rd_new w2 3 _) rfl (by omega) (by omega) (fun b e => by simp only [ob, Option.map_some, Option.some.injEq] at e; omega)).mono ?_
     rintro e w3 ⟨v, rfl, hv, hc3, hg3⟩
     have HC3 := Lib.hid hc3
     have HFR3 := Lib.hid (((FrG.refl w.heap.size g w).draw HG2.out (Nat.le_refl _)).below (bel_alloc (Below.refl _ _) (.cells #[.int .i64 (-1), .int .i64 8, .int .i64 9223372036854775807] 3)) hsz2)
     have HO3 := Lib.hid (own_keptD (own_keep HO2.out (bel_alloc (Below.refl _ _) (.cells #[.int .i64 (-1), .int .i64 8, .int .i64 9223372036854775807] 3))) hg3 (fun b e r => HDG.out b e (by injection r with r; exact r.symm)))
     have HFR4 := Lib.hid (HFR3.out.draw hg3 (by simp; omega))
     have hbx : w3.frozen? ⟨gD, 0, none⟩ = false := HO3.out.frozenAt 0
     obtain ⟨u, hbc⟩ : ∃ u, w3.cell? ⟨gD, 0, none⟩ = some u := by
      obtain ⟨g1, o1, e1, _, a1, a2⟩ := RdC.at_ (Rd.of_own HO3.out) (show 0 < xs.length by rw [HXL.out]; omega)
      simp only [Option.some.injEq, Addr.mk.injEq, and_true] at e1
      obtain ⟨rfl, rfl⟩ := e1
      exact ⟨_, a1⟩
     clear hc3 hg3
     go_wp2_with fail
     have hst := (HO3.out.stored 0 (.int .i64 v)).1
     have hk := grown_set (World.grownBy.refl w3 (some gD)) (p := ⟨gD, 0, none⟩) rfl (.int .i64 v)
     have hsz3 : w.heap.size ≤ w3.heap.size := HFR4.out.size
     have hc4 : Cur (w3.setCell ⟨gD, 0, none⟩ (.int .i64 v)) g A n c bs := HC3.out.row hk (fun b e => by have := HDG.out gD rfl; injection e with e; omega) (fun h0 b e r => by have h2 := HAB.out h0 b r; injection e with e; omega)
     have hf4 := (HFR4.out.row hk hsz3 (fun b e => by injection e with e; omega)).grown
     obtain ⟨x, ys, rfl⟩ : ∃ x ys, xs = x :: ys := by
      cases xs with
      | nil => have := HXL.out; simp at this; omega
      | cons x ys => exact ⟨x, ys, rfl⟩
     go_ret
     exact ⟨_, k, cD, (v, x.2) :: ys, rfl, Rd.of_own hst, by rw [← HXL.out]; rfl, by omega, hcap, hc4, hf4, fun b e => by simp only [ob, Option.map_some, Option.some.injEq] at e; omega⟩
    ·have e3 : ((q : Int) == 3) = false := by simp only [beq_eq_false_iff_ne]; omega
     clear h0 h1 h2 h3 hq
     go_wp2_with fail
     go_ret
     exact ⟨D, k, cD, _, rfl, Rd.of_own HO2.out, HXL.out, by omega, hcap, HC2.out, HG2.out, fun b e => ⟨HDG.out b e, (own_lt HO2.out b e).1⟩⟩
end

section
attribute [local go_sem ↓] Go.wp_at_zero Go.wp_at_succ
theorem onB_split (x y : Int) : onB (x, y) = ((decide (0 ≤ x) && decide (x ≤ 7)) && (decide (0 ≤ y) && decide (y ≤ 7))) := rfl
theorem IsShape_s (A : Option Addr) (n c : Nat) (xs : List C) (w : World) (hr : Rd w A (vC xs)) (hl : xs.length = n) (hn : n ≤ 1099511627776) :
  Calls Tryz.prog 91 #[.slice A n c] w (Ret w (.bool (isShape xs))) := by
 have HL := Lib.hid hl
 clear hl
 go_enter Tryz.func91, Tryz.ntmps91
 go_wp2
 go_loopw [3] (fun i wr => ∃ k : Nat, k ≤ n ∧ i = .int .i64 k ∧ shapeTo xs k = true ∧ Below w.heap.size w wr) (fun i _ => n - (intOf i).toNat)
 case atStart => exact ⟨0, Nat.zero_le _, rfl, rfl, Below.refl _ _⟩
 case round =>
  obtain ⟨k, hk, rfl, hgo, hb⟩ := hrel
  by_cases hlt : k < n
  ·have hkx : k < xs.length := by rw [HL.out]; omega
   obtain ⟨g, off, rfl, hgw, c1, c2⟩ := RdC.at_ (hr.below hb) hkx
   have hs := shapeTo_succ xs k hkx
   have hno := isShape_no xs k hkx
   obtain ⟨⟨x, y⟩, hx⟩ : ∃ p, xs[k] = p := ⟨_, rfl⟩
   rw [hx] at c1 c2 hs hno
   have hi0 : (0 : Int) ≤ (k : Int) := by omega
   have hi1 : (k : Int) < (n : Int) := by omega
   have HS := Lib.hid hs
   have HNO := Lib.hid hno
   have HG := Lib.hid hgo
   have hrw := hr.below hb
   clear hs hno hgo hx
   go_upto_region 4 with fail
   go_cut [42] (fun s wx => s = .bool (!shapeAt xs k (x, y)) ∧ Below wr.heap.size wr wx)
   case first =>
    cases hbx : (decide (0 ≤ x) && decide (x ≤ 7)) with
    | false =>
     have HV : Hid (shapeAt xs k (x, y) = false) := by unfold Hid shapeAt; rw [onB_split, hbx]; rfl
     have HX := Lib.hid hbx.symm
     clear hbx
     refine wp_region_noPanic ?_
     refine wp_region_held_drew (S := (fun w' => w'.cell? ⟨g, off + k * 2, none⟩ = some (.int .i64 x) ∧ w'.cell? ⟨g, off + k * 2 + 1, none⟩ = some (.int .i64 y))) (by kernel_rfl) ?_ (fun hS => ?_)
     ·((go_split_ands; (try dsimp only); (repeat' (with_reducible apply And.intro)) <;> (repeat (first | with_reducible assumption | with_reducible apply keep_alloc | with_reducible apply keep_drew | with_reducible refine keep_below hb1 ?_ | ((with_reducible refine keep_set ?_ ?_); rotate_left; (simp <;> omega))))))
     refine wpT (i := 0) (v := ?_) rfl rfl (by kernel_rfl) (by kernel_rfl) (by kernel_rfl) (fun _ _ _ h => h) (Or.inl ⟨by rfl, ?_⟩) hS ?_
     rotate_left
     ·(intro w hSw; (try dsimp only at hSw); go_simp; first | done | with_reducible rfl)
     simp only [sq1, sq2, sq3]
     refine wpT (i := 1) (v := ?_) rfl rfl (by kernel_rfl) (by kernel_rfl) (by kernel_rfl) (fun _ _ _ h => h) (Or.inl ⟨by rfl, ?_⟩) hS ?_
     rotate_left
     ·(intro w hSw; (try dsimp only at hSw); go_simp; first | done | with_reducible rfl)
     simp only [sq1, sq2, sq3]
     refine wpT (i := 2) (v := ?_) rfl rfl (by kernel_rfl) (by kernel_rfl) (by kernel_rfl) (fun _ _ _ h => h) (Or.inl ⟨by rfl, ?_⟩) hS ?_
     rotate_left
     ·(intro w hSw; (try dsimp only at hSw); go_simp; first | done | with_reducible rfl)
     simp only [sq1, sq2, sq3]
     refine wpT (i := 3) (v := ?_) rfl rfl (by kernel_rfl) (by kernel_rfl) (by kernel_rfl) (fun _ _ _ h => h) (Or.inl ⟨by rfl, ?_⟩) hS ?_
     rotate_left
     ·(intro w hSw; (try dsimp only at hSw); go_simp; first | done | with_reducible rfl)
     simp only [sq1, sq2, sq3]
     refine wpT (i := 4) (v := ?_) rfl rfl (by kernel_rfl) (by kernel_rfl) (by kernel_rfl) (fun _ _ _ h => h) (Or.inl ⟨by rfl, ?_⟩) hS ?_
     rotate_left
     ·(intro w hSw; (try dsimp only at hSw); go_simp; first | done | with_reducible rfl)
     simp only [sq1, sq2, sq3]
     refine wpAnyH_ready (rs := [5]) (by kernel_rfl) (by simp) ?_
     refine AllReadyH.cons rfl (fun K hK => ?_) AllReadyH.nil
     go_simp
     (go_at_call 83; refine (l1In_b _ _ _ _ _ HX.out).mono ?_; rintro e w1 ⟨rfl, hb1⟩)
     try go_wp2_with fail
     refine hK.out _ _ ?_ (fun hS2 => ?_)
     ·(clear hK K; ((go_split_ands; (try dsimp only); (repeat' (with_reducible apply And.intro)) <;> (repeat (first | with_reducible assumption | with_reducible apply keep_alloc | with_reducible apply keep_drew | with_reducible refine keep_below hb1 ?_ | ((with_reducible refine keep_set ?_ ?_); rotate_left; (simp <;> omega)))))))
     clear hS hK K
     have hS := hS2
     clear hS2
     refine wpT (i := 6) (v := ?_) rfl rfl (by kernel_rfl) (by kernel_rfl) (by kernel_rfl) (fun _ _ _ h => h) (Or.inl ⟨by rfl, ?_⟩) hS ?_
     rotate_left
     ·(intro w hSw; (try dsimp only at hSw); go_simp; first | done | with_reducible rfl)
     simp only [sq1, sq2, sq3]
     refine wpT (i := 7) (v := ?_) rfl rfl (by kernel_rfl) (by kernel_rfl) (by kernel_rfl) (fun _ _ _ h => h) (Or.inl ⟨by rfl, ?_⟩) hS ?_
     rotate_left
     ·(intro w hSw; (try dsimp only at hSw); go_simp; first | done | with_reducible rfl)
     simp only [sq1, sq2, sq3]
     refine wpT (i := 8) (v := undef) rfl rfl (by kernel_rfl) (by kernel_rfl) (by kernel_rfl) (fun _ _ _ h => h) (Or.inr ⟨by rfl, rfl⟩) hS ?_
     simp only [sq1, sq2, sq3]
     refine wpT (i := 9) (v := undef) rfl rfl (by kernel_rfl) (by kernel_rfl) (by kernel_rfl) (fun _ _ _ h => h) (Or.inr ⟨by rfl, rfl⟩) hS ?_
     simp only [sq1, sq2, sq3]
     refine wpT (i := 10) (v := undef) rfl rfl (by kernel_rfl) (by kernel_rfl) (by kernel_rfl) (fun _ _ _ h => h) (Or.inr ⟨by rfl, rfl⟩) hS ?_
     simp only [sq1, sq2, sq3]
     refine wpT (i := 11) (v := undef) rfl rfl (by kernel_rfl) (by kernel_rfl) (by kernel_rfl) (fun _ _ _ h => h) (Or.inr ⟨by rfl, rfl⟩) hS ?_
     simp only [sq1, sq2, sq3]
     refine wpT (i := 12) (v := undef) rfl rfl (by kernel_rfl) (by kernel_rfl) (by kernel_rfl) (fun _ _ _ h => h) (Or.inr ⟨by rfl, rfl⟩) hS ?_
     simp only [sq1, sq2, sq3]
     refine wpT (i := 13) (v := undef) rfl rfl (by kernel_rfl) (by kernel_rfl) (by kernel_rfl) (fun _ _ _ h => h) (Or.inr ⟨by rfl, rfl⟩) hS ?_
     simp only [sq1, sq2, sq3]
     refine wpT (i := 14) (v := undef) rfl rfl (by kernel_rfl) (by kernel_rfl) (by kernel_rfl) (fun _ _ _ h => h) (Or.inr ⟨by rfl, rfl⟩) hS ?_
     simp only [sq1, sq2, sq3]
     refine wpT (i := 15) (v := ?_) rfl rfl (by kernel_rfl) (by kernel_rfl) (by kernel_rfl) (fun _ _ _ h => h) (Or.inl ⟨by rfl, ?_⟩) hS ?_
     rotate_left
     ·(intro w hSw; (try dsimp only at hSw); go_simp; first | done | with_reducible rfl)
     simp only [sq1, sq2, sq3]
     refine wpT (i := 16) (v := ?_) rfl rfl (by kernel_rfl) (by kernel_rfl) (by kernel_rfl) (fun _ _ _ h => h) (Or.inl ⟨by rfl, ?_⟩) hS ?_
     rotate_left
     ·(intro w hSw; (try dsimp only at hSw); go_simp; first | done | with_reducible rfl)
     simp only [sq1, sq2, sq3]
     refine wpT (i := 17) (v := undef) rfl rfl (by kernel_rfl) (by kernel_rfl) (by kernel_rfl) (fun _ _ _ h => h) (Or.inr ⟨by rfl, rfl⟩) hS ?_
     simp only [sq1, sq2, sq3]
     refine wpT (i := 18) (v := undef) rfl rfl (by kernel_rfl) (by kernel_rfl) (by kernel_rfl) (fun _ _ _ h => h) (Or.inr ⟨by rfl, rfl⟩) hS ?_
     simp only [sq1, sq2, sq3]
     refine wpT (i := 19) (v := undef) rfl rfl (by kernel_rfl) (by kernel_rfl) (by kernel_rfl) (fun _ _ _ h => h) (Or.inr ⟨by rfl, rfl⟩) hS ?_
     simp only [sq1, sq2, sq3]
     refine wpT (i := 20) (v := undef) rfl rfl (by kernel_rfl) (by kernel_rfl) (by kernel_rfl) (fun _ _ _ h => h) (Or.inr ⟨by rfl, rfl⟩) hS ?_
     simp only [sq1, sq2, sq3]
     refine wpT (i := 21) (v := undef) rfl rfl (by kernel_rfl) (by kernel_rfl) (by kernel_rfl) (fun _ _ _ h => h) (Or.inr ⟨by rfl, rfl⟩) hS ?_
     simp only [sq1, sq2, sq3]
     refine wpT (i := 22) (v := undef) rfl rfl (by kernel_rfl) (by kernel_rfl) (by kernel_rfl) (fun _ _ _ h => h) (Or.inr ⟨by rfl, rfl⟩) hS ?_
     simp only [sq1, sq2, sq3]
     refine wpT (i := 23) (v := undef) rfl rfl (by kernel_rfl) (by kernel_rfl) (by kernel_rfl) (fun _ _ _ h => h) (Or.inr ⟨by rfl, rfl⟩) hS ?_
     simp only [sq1, sq2, sq3]
     refine wpT (i := 24) (v := undef) rfl rfl (by kernel_rfl) (by kernel_rfl) (by kernel_rfl) (fun _ _ _ h => h) (Or.inr ⟨by rfl, rfl⟩) hS ?_
     simp only [sq1, sq2, sq3]
     refine wpT (i := 25) (v := undef) rfl rfl (by kernel_rfl) (by kernel_rfl) (by kernel_rfl) (fun _ _ _ h => h) (Or.inr ⟨by rfl, rfl⟩) hS ?_
     simp only [sq1, sq2, sq3]
     refine wpT (i := 26) (v := undef) rfl rfl (by kernel_rfl) (by kernel_rfl) (by kernel_rfl) (fun _ _ _ h => h) (Or.inr ⟨by rfl, rfl⟩) hS ?_
     simp only [sq1, sq2, sq3]
     refine wpT (i := 27) (v := undef) rfl rfl (by kernel_rfl) (by kernel_rfl) (by kernel_rfl) (fun _ _ _ h => h) (Or.inr ⟨by rfl, rfl⟩) hS ?_
     simp only [sq1, sq2, sq3]
     refine wpT (i := 28) (v := undef) rfl rfl (by kernel_rfl) (by kernel_rfl) (by kernel_rfl) (fun _ _ _ h => h) (Or.inr ⟨by rfl, rfl⟩) hS ?_
     simp only [sq1, sq2, sq3]
     refine wpT (i := 29) (v := undef) rfl rfl (by kernel_rfl) (by kernel_rfl) (by kernel_rfl) (fun _ _ _ h => h) (Or.inr ⟨by rfl, rfl⟩) hS ?_
     simp only [sq1, sq2, sq3]
     refine wpT (i := 30) (v := undef) rfl rfl (by kernel_rfl) (by kernel_rfl) (by kernel_rfl) (fun _ _ _ h => h) (Or.inr ⟨by rfl, rfl⟩) hS ?_
     simp only [sq1, sq2, sq3]
     refine wpT (i := 31) (v := undef) rfl rfl (by kernel_rfl) (by kernel_rfl) (by kernel_rfl) (fun _ _ _ h => h) (Or.inr ⟨by rfl, rfl⟩) hS ?_
     simp only [sq1, sq2, sq3]
     refine wpT (i := 32) (v := ?_) rfl rfl (by kernel_rfl) (by kernel_rfl) (by kernel_rfl) (fun _ _ _ h => h) (Or.inl ⟨by rfl, ?_⟩) hS ?_
     rotate_left
     ·(intro w hSw; (try dsimp only at hSw); go_simp; first | done | with_reducible rfl)
     simp only [sq1, sq2, sq3]
     refine wpAnyH_done (by kernel_rfl) ?_ _
     refine NoPanic.normal ?_
     go_wp2_with fail
     go_meet
     exact ⟨by rw [HV.out]; rfl, (by (repeat (first | with_reducible exact Below.refl _ _ | with_reducible assumption | with_reducible apply bel_alloc | with_reducible apply bel_drew | with_reducible apply bel_drewN | ((with_reducible refine bel_set ?_ ?_); rotate_left; (simp <;> omega)) | (with_reducible refine bel_trans ?_ (by with_reducible assumption)))))⟩
    | true =>
     cases hby : (decide (0 ≤ y) && decide (y ≤ 7)) with
     | false =>
      have HV : Hid (shapeAt xs k (x, y) = false) := by unfold Hid shapeAt; rw [onB_split, hbx, hby]; rfl
      have HX := Lib.hid hbx.symm
      have HY := Lib.hid hby.symm
      clear hbx hby
      refine wp_region_noPanic ?_
      refine wp_region_held_drew (S := (fun w' => w'.cell? ⟨g, off + k * 2, none⟩ = some (.int .i64 x) ∧ w'.cell? ⟨g, off + k * 2 + 1, none⟩ = some (.int .i64 y))) (by kernel_rfl) ?_ (fun hS => ?_)
      ·((go_split_ands; (try dsimp only); (repeat' (with_reducible apply And.intro)) <;> (repeat (first | with_reducible assumption | with_reducible apply keep_alloc | with_reducible apply keep_drew | with_reducible refine keep_below hb1 ?_ | ((with_reducible refine keep_set ?_ ?_); rotate_left; (simp <;> omega))))))
      refine wpT (i := 0) (v := ?_) rfl rfl (by kernel_rfl) (by kernel_rfl) (by kernel_rfl) (fun _ _ _ h => h) (Or.inl ⟨by rfl, ?_⟩) hS ?_
      rotate_left
      ·(intro w hSw; (try dsimp only at hSw); go_simp; first | done | with_reducible rfl)
      simp only [sq1, sq2, sq3]
      refine wpT (i := 1) (v := ?_) rfl rfl (by kernel_rfl) (by kernel_rfl) (by kernel_rfl) (fun _ _ _ h => h) (Or.inl ⟨by rfl, ?_⟩) hS ?_
      rotate_left
      ·(intro w hSw; (try dsimp only at hSw); go_simp; first | done | with_reducible rfl)
      simp only [sq1, sq2, sq3]
      refine wpT (i := 2) (v := ?_) rfl rfl (by kernel_rfl) (by kernel_rfl) (by kernel_rfl) (fun _ _ _ h => h) (Or.inl ⟨by rfl, ?_⟩) hS ?_
      rotate_left
      ·(intro w hSw; (try dsimp only at hSw); go_simp; first | done | with_reducible rfl)
      simp only [sq1, sq2, sq3]
      refine wpT (i := 3) (v := ?_) rfl rfl (by kernel_rfl) (by kernel_rfl) (by kernel_rfl) (fun _ _ _ h => h) (Or.inl ⟨by rfl, ?_⟩) hS ?_
      rotate_left
      ·(intro w hSw; (try dsimp only at hSw); go_simp; first | done | with_reducible rfl)
      simp only [sq1, sq2, sq3]
      refine wpT (i := 4) (v := ?_) rfl rfl (by kernel_rfl) (by kernel_rfl) (by kernel_rfl) (fun _ _ _ h => h) (Or.inl ⟨by rfl, ?_⟩) hS ?_
      rotate_left
      ·(intro w hSw; (try dsimp only at hSw); go_simp; first | done | with_reducible rfl)
      simp only [sq1, sq2, sq3]
      refine wpAnyH_ready (rs := [5]) (by kernel_rfl) (by simp) ?_
      refine AllReadyH.cons rfl (fun K hK => ?_) AllReadyH.nil
      go_simp
      (go_at_call 83; refine (l1In_b _ _ _ _ _ HX.out).mono ?_; rintro e w1 ⟨rfl, hb1⟩)
      try go_wp2_with fail
      refine hK.out _ _ ?_ (fun hS2 => ?_)
      ·(clear hK K; ((go_split_ands; (try dsimp only); (repeat' (with_reducible apply And.intro)) <;> (repeat (first | with_reducible assumption | with_reducible apply keep_alloc | with_reducible apply keep_drew | with_reducible refine keep_below hb1 ?_ | ((with_reducible refine keep_set ?_ ?_); rotate_left; (simp <;> omega)))))))
      clear hS hK K
      have hS := hS2
      clear hS2
      refine wpT (i := 6) (v := ?_) rfl rfl (by kernel_rfl) (by kernel_rfl) (by kernel_rfl) (fun _ _ _ h => h) (Or.inl ⟨by rfl, ?_⟩) hS ?_
      rotate_left
      ·(intro w hSw; (try dsimp only at hSw); go_simp; first | done | with_reducible rfl)
      simp only [sq1, sq2, sq3]
      refine wpT (i := 7) (v := ?_) rfl rfl (by kernel_rfl) (by kernel_rfl) (by kernel_rfl) (fun _ _ _ h => h) (Or.inl ⟨by rfl, ?_⟩) hS ?_
      rotate_left
      ·(intro w hSw; (try dsimp only at hSw); go_simp; first | done | with_reducible rfl)
      simp only [sq1, sq2, sq3]
      refine wpT (i := 8) (v := ?_) rfl rfl (by kernel_rfl) (by kernel_rfl) (by kernel_rfl) (fun _ _ _ h => h) (Or.inl ⟨by rfl, ?_⟩) hS ?_
      rotate_left
      ·(intro w hSw; (try dsimp only at hSw); go_simp; first | done | with_reducible rfl)
      simp only [sq1, sq2, sq3]
      refine wpT (i := 9) (v := ?_) rfl rfl (by kernel_rfl) (by kernel_rfl) (by kernel_rfl) (fun _ _ _ h => h) (Or.inl ⟨by rfl, ?_⟩) hS ?_
      rotate_left
      ·(intro w hSw; (try dsimp only at hSw); go_simp; first | done | with_reducible rfl)
      simp only [sq1, sq2, sq3]
      refine wpT (i := 10) (v := ?_) rfl rfl (by kernel_rfl) (by kernel_rfl) (by kernel_rfl) (fun _ _ _ h => h) (Or.inl ⟨by rfl, ?_⟩) hS ?_
      rotate_left
      ·(intro w hSw; (try dsimp only at hSw); go_simp; first | done | with_reducible rfl)
      simp only [sq1, sq2, sq3]
      refine wpT (i := 11) (v := ?_) rfl rfl (by kernel_rfl) (by kernel_rfl) (by kernel_rfl) (fun _ _ _ h => h) (Or.inl ⟨by rfl, ?_⟩) hS ?_
      rotate_left
      ·(intro w hSw; (try dsimp only at hSw); go_simp; first | done | with_reducible rfl)
      simp only [sq1, sq2, sq3]
      refine wpT (i := 12) (v := ?_) rfl rfl (by kernel_rfl) (by kernel_rfl) (by kernel_rfl) (fun _ _ _ h => h) (Or.inl ⟨by rfl, ?_⟩) hS ?_
      rotate_left
      ·(intro w hSw; (try dsimp only at hSw); go_simp; first | done | with_reducible rfl)
      simp only [sq1, sq2, sq3]
      refine wpAnyH_ready (rs := [13]) (by kernel_rfl) (by simp) ?_
      refine AllReadyH.cons rfl (fun K hK => ?_) AllReadyH.nil
      go_simp
      (go_at_call 83; refine (l1In_b _ _ _ _ _ HY.out).mono ?_; rintro e w2 ⟨rfl, hb2⟩)
      try go_wp2_with fail
      refine hK.out _ _ ?_ (fun hS2 => ?_)
      ·(clear hK K; ((go_split_ands; (try dsimp only); (repeat' (with_reducible apply And.intro)) <;> (repeat (first | with_reducible assumption | with_reducible apply keep_alloc | with_reducible apply keep_drew | with_reducible refine keep_below hb2 ?_ | ((with_reducible refine keep_set ?_ ?_); rotate_left; (simp <;> omega)))))))
      clear hS hK K
      have hS := hS2
      clear hS2
      refine wpT (i := 14) (v := ?_) rfl rfl (by kernel_rfl) (by kernel_rfl) (by kernel_rfl) (fun _ _ _ h => h) (Or.inl ⟨by rfl, ?_⟩) hS ?_
      rotate_left
      ·(intro w hSw; (try dsimp only at hSw); go_simp; first | done | with_reducible rfl)
      simp only [sq1, sq2, sq3]
      refine wpT (i := 15) (v := ?_) rfl rfl (by kernel_rfl) (by kernel_rfl) (by kernel_rfl) (fun _ _ _ h => h) (Or.inl ⟨by rfl, ?_⟩) hS ?_
      rotate_left
      ·(intro w hSw; (try dsimp only at hSw); go_simp; first | done | with_reducible rfl)
      simp only [sq1, sq2, sq3]
      refine wpT (i := 16) (v := ?_) rfl rfl (by kernel_rfl) (by kernel_rfl) (by kernel_rfl) (fun _ _ _ h => h) (Or.inl ⟨by rfl, ?_⟩) hS ?_
      rotate_left
      ·(intro w hSw; (try dsimp only at hSw); go_simp; first | done | with_reducible rfl)
      simp only [sq1, sq2, sq3]
      refine wpT (i := 17) (v := undef) rfl rfl (by kernel_rfl) (by kernel_rfl) (by kernel_rfl) (fun _ _ _ h => h) (Or.inr ⟨by rfl, rfl⟩) hS ?_
      simp only [sq1, sq2, sq3]
      refine wpT (i := 18) (v := undef) rfl rfl (by kernel_rfl) (by kernel_rfl) (by kernel_rfl) (fun _ _ _ h => h) (Or.inr ⟨by rfl, rfl⟩) hS ?_
      simp only [sq1, sq2, sq3]
      refine wpT (i := 19) (v := undef) rfl rfl (by kernel_rfl) (by kernel_rfl) (by kernel_rfl) (fun _ _ _ h => h) (Or.inr ⟨by rfl, rfl⟩) hS ?_
      simp only [sq1, sq2, sq3]
      refine wpT (i := 20) (v := undef) rfl rfl (by kernel_rfl) (by kernel_rfl) (by kernel_rfl) (fun _ _ _ h => h) (Or.inr ⟨by rfl, rfl⟩) hS ?_
      simp only [sq1, sq2, sq3]
      refine wpT (i := 21) (v := undef) rfl rfl (by kernel_rfl) (by kernel_rfl) (by kernel_rfl) (fun _ _ _ h => h) (Or.inr ⟨by rfl, rfl⟩) hS ?_
      simp only [sq1, sq2, sq3]
      refine wpT (i := 22) (v := undef) rfl rfl (by kernel_rfl) (by kernel_rfl) (by kernel_rfl) (fun _ _ _ h => h) (Or.inr ⟨by rfl, rfl⟩) hS ?_
      simp only [sq1, sq2, sq3]
      refine wpT (i := 23) (v := undef) rfl rfl (by kernel_rfl) (by kernel_rfl) (by kernel_rfl) (fun _ _ _ h => h) (Or.inr ⟨by rfl, rfl⟩) hS ?_
      simp only [sq1, sq2, sq3]
      refine wpT (i := 24) (v := undef) rfl rfl (by kernel_rfl) (by kernel_rfl) (by kernel_rfl) (fun _ _ _ h => h) (Or.inr ⟨by rfl, rfl⟩) hS ?_
      simp only [sq1, sq2, sq3]
      refine wpT (i := 25) (v := undef) rfl rfl (by kernel_rfl) (by kernel_rfl) (by kernel_rfl) (fun _ _ _ h => h) (Or.inr ⟨by rfl, rfl⟩) hS ?_
      simp only [sq1, sq2, sq3]
      refine wpT (i := 26) (v := undef) rfl rfl (by kernel_rfl) (by kernel_rfl) (by kernel_rfl) (fun _ _ _ h => h) (Or.inr ⟨by rfl, rfl⟩) hS ?_
      simp only [sq1, sq2, sq3]
      refine wpT (i := 27) (v := undef) rfl rfl (by kernel_rfl) (by kernel_rfl) (by kernel_rfl) (fun _ _ _ h => h) (Or.inr ⟨by rfl, rfl⟩) hS ?_
      simp only [sq1, sq2, sq3]
      refine wpT (i := 28) (v := undef) rfl rfl (by kernel_rfl) (by kernel_rfl) (by kernel_rfl) (fun _ _ _ h => h) (Or.inr ⟨by rfl, rfl⟩) hS ?_
      simp only [sq1, sq2, sq3]
      refine wpT (i := 29) (v := undef) rfl rfl (by kernel_rfl) (by kernel_rfl) (by kernel_rfl) (fun _ _ _ h => h) (Or.inr ⟨by rfl, rfl⟩) hS ?_
      simp only [sq1, sq2, sq3]
      refine wpT (i := 30) (v := undef) rfl rfl (by kernel_rfl) (by kernel_rfl) (by kernel_rfl) (fun _ _ _ h => h) (Or.inr ⟨by rfl, rfl⟩) hS ?_
      simp only [sq1, sq2, sq3]
      refine wpT (i := 31) (v := undef) rfl rfl (by kernel_rfl) (by kernel_rfl) (by kernel_rfl) (fun _ _ _ h => h) (Or.inr ⟨by rfl, rfl⟩) hS ?_
      simp only [sq1, sq2, sq3]
      refine wpT (i := 32) (v := ?_) rfl rfl (by kernel_rfl) (by kernel_rfl) (by kernel_rfl) (fun _ _ _ h => h) (Or.inl ⟨by rfl, ?_⟩) hS ?_
      rotate_left
      ·(intro w hSw; (try dsimp only at hSw); go_simp; first | done | with_reducible rfl)
      simp only [sq1, sq2, sq3]
      refine wpAnyH_done (by kernel_rfl) ?_ _
      refine NoPanic.normal ?_
      go_wp2_with fail
      go_meet
      exact ⟨by rw [HV.out]; rfl, (by (repeat (first | with_reducible exact Below.refl _ _ | with_reducible assumption | with_reducible apply bel_alloc | with_reducible apply bel_drew | with_reducible apply bel_drewN | ((with_reducible refine bel_set ?_ ?_); rotate_left; (simp <;> omega)) | (with_reducible refine bel_trans ?_ (by with_reducible assumption)))))⟩
     | true =>
      have ho : onB (x, y) = true := by rw [onB_split, hbx, hby]; rfl
      have HX := Lib.hid hbx.symm
      have HY := Lib.hid hby.symm
      clear hbx hby
      by_cases hk0 : 0 < k
      ·obtain ⟨j, hj⟩ : ∃ j, k = j + 1 := ⟨k - 1, by omega⟩
       have hkj : (k : Int) - 1 = (j : Int) := by omega
       have hj0 : (0 : Int) ≤ (j : Int) := by omega
       have hj1 : (j : Int) < (n : Int) := by omega
       have hjw : IntKind.i64.wrap (j : Int) = (j : Int) := IntWalk.i64_in _ (by omega)
       have hk2 : (0 : Int) < (k : Int) := by omega
       have hjx : j < xs.length := by omega
       have d1 : wr.cell? ⟨g, off + j * 2, none⟩ = some (.int .i64 xs[j].1) := by
        obtain ⟨g', off', e, _, h1, _⟩ := RdC.at_ hrw hjx
        simp only [Option.some.injEq, Addr.mk.injEq, and_true] at e
        obtain ⟨rfl, rfl⟩ := e
        exact h1
       have d2 : wr.cell? ⟨g, off + j * 2 + 1, none⟩ = some (.int .i64 xs[j].2) := by
        obtain ⟨g', off', e, _, _, h1⟩ := RdC.at_ hrw hjx
        simp only [Option.some.injEq, Addr.mk.injEq, and_true] at e
        obtain ⟨rfl, rfl⟩ := e
        exact h1
       obtain ⟨⟨x', y'⟩, hx'⟩ : ∃ p, xs[j] = p := ⟨_, rfl⟩
       rw [hx'] at d1 d2
       have HV : Hid (shapeAt xs k (x, y) = befC (x', y') (x, y)) := by
        unfold Hid shapeAt
        rw [ho, Bool.true_and, show (k == 0) = false from by simp; omega, Bool.false_or, show k - 1 = j from by omega, List.getD_eq_getElem?_getD, List.getElem?_eq_getElem hjx, hx']; rfl
       clear ho hx' hj
       refine wp_region_noPanic ?_
       refine wp_region_held_drew (S := (fun w' => w'.cell? ⟨g, off + k * 2, none⟩ = some (.int .i64 x) ∧ w'.cell? ⟨g, off + k * 2 + 1, none⟩ = some (.int .i64 y) ∧ w'.cell? ⟨g, off + j * 2, none⟩ = some (.int .i64 x') ∧ w'.cell? ⟨g, off + j * 2 + 1, none⟩ = some (.int .i64 y'))) (by kernel_rfl) ?_ (fun hS => ?_)
       ·((go_split_ands; (try dsimp only); (repeat' (with_reducible apply And.intro)) <;> (repeat (first | with_reducible assumption | with_reducible apply keep_alloc | with_reducible apply keep_drew | with_reducible refine keep_below hb1 ?_ | ((with_reducible refine keep_set ?_ ?_); rotate_left; (simp <;> omega))))))
       refine wpT (i := 0) (v := ?_) rfl rfl (by kernel_rfl) (by kernel_rfl) (by kernel_rfl) (fun _ _ _ h => h) (Or.inl ⟨by rfl, ?_⟩) hS ?_
       rotate_left
       ·(intro w hSw; (try dsimp only at hSw); go_simp; first | done | with_reducible rfl)
       simp only [sq1, sq2, sq3]
       refine wpT (i := 1) (v := ?_) rfl rfl (by kernel_rfl) (by kernel_rfl) (by kernel_rfl) (fun _ _ _ h => h) (Or.inl ⟨by rfl, ?_⟩) hS ?_
       rotate_left
       ·(intro w hSw; (try dsimp only at hSw); go_simp; first | done | with_reducible rfl)
       simp only [sq1, sq2, sq3]
       refine wpT (i := 2) (v := ?_) rfl rfl (by kernel_rfl) (by kernel_rfl) (by kernel_rfl) (fun _ _ _ h => h) (Or.inl ⟨by rfl, ?_⟩) hS ?_
       rotate_left
       ·(intro w hSw; (try dsimp only at hSw); go_simp; first | done | with_reducible rfl)
       simp only [sq1, sq2, sq3]
       refine wpT (i := 3) (v := ?_) rfl rfl (by kernel_rfl) (by kernel_rfl) (by kernel_rfl) (fun _ _ _ h => h) (Or.inl ⟨by rfl, ?_⟩) hS ?_
       rotate_left
       ·(intro w hSw; (try dsimp only at hSw); go_simp; first | done | with_reducible rfl)
       simp only [sq1, sq2, sq3]
       refine wpT (i := 4) (v := ?_) rfl rfl (by kernel_rfl) (by kernel_rfl) (by kernel_rfl) (fun _ _ _ h => h) (Or.inl ⟨by rfl, ?_⟩) hS ?_
       rotate_left
       ·(intro w hSw; (try dsimp only at hSw); go_simp; first | done | with_reducible rfl)
       simp only [sq1, sq2, sq3]
       refine wpAnyH_ready (rs := [5]) (by kernel_rfl) (by simp) ?_
       refine AllReadyH.cons rfl (fun K hK => ?_) AllReadyH.nil
       go_simp
       (go_at_call 83; refine (l1In_b _ _ _ _ _ HX.out).mono ?_; rintro e w1 ⟨rfl, hb1⟩)
       try go_wp2_with fail
       refine hK.out _ _ ?_ (fun hS2 => ?_)
       ·(clear hK K; ((go_split_ands; (try dsimp only); (repeat' (with_reducible apply And.intro)) <;> (repeat (first | with_reducible assumption | with_reducible apply keep_alloc | with_reducible apply keep_drew | with_reducible refine keep_below hb1 ?_ | ((with_reducible refine keep_set ?_ ?_); rotate_left; (simp <;> omega)))))))
       clear hS hK K
       have hS := hS2
       clear hS2
       refine wpT (i := 6) (v := ?_) rfl rfl (by kernel_rfl) (by kernel_rfl) (by kernel_rfl) (fun _ _ _ h => h) (Or.inl ⟨by rfl, ?_⟩) hS ?_
       rotate_left
       ·(intro w hSw; (try dsimp only at hSw); go_simp; first | done | with_reducible rfl)
       simp only [sq1, sq2, sq3]
       refine wpT (i := 7) (v := ?_) rfl rfl (by kernel_rfl) (by kernel_rfl) (by kernel_rfl) (fun _ _ _ h => h) (Or.inl ⟨by rfl, ?_⟩) hS ?_
       rotate_left
       ·(intro w hSw; (try dsimp only at hSw); go_simp; first | done | with_reducible rfl)
       simp only [sq1, sq2, sq3]
       refine wpT (i := 8) (v := ?_) rfl rfl (by kernel_rfl) (by kernel_rfl) (by kernel_rfl) (fun _ _ _ h => h) (Or.inl ⟨by rfl, ?_⟩) hS ?_
       rotate_left
       ·(intro w hSw; (try dsimp only at hSw); go_simp; first | done | with_reducible rfl)
       simp only [sq1, sq2, sq3]
       refine wpT (i := 9) (v := ?_) rfl rfl (by kernel_rfl) (by kernel_rfl) (by kernel_rfl) (fun _ _ _ h => h) (Or.inl ⟨by rfl, ?_⟩) hS ?_
       rotate_left
       ·(intro w hSw; (try dsimp only at hSw); go_simp; first | done | with_reducible rfl)
       simp only [sq1, sq2, sq3]
       refine wpT (i := 10) (v := ?_) rfl rfl (by kernel_rfl) (by kernel_rfl) (by kernel_rfl) (fun _ _ _ h => h) (Or.inl ⟨by rfl, ?_⟩) hS ?_
       rotate_left
       ·(intro w hSw; (try dsimp only at hSw); go_simp; first | done | with_reducible rfl)
       simp only [sq1, sq2, sq3]
       refine wpT (i := 11) (v := ?_) rfl rfl (by kernel_rfl) (by kernel_rfl) (by kernel_rfl) (fun _ _ _ h => h) (Or.inl ⟨by rfl, ?_⟩) hS ?_
       rotate_left
       ·(intro w hSw; (try dsimp only at hSw); go_simp; first | done | with_reducible rfl)
       simp only [sq1, sq2, sq3]
       refine wpT (i := 12) (v := ?_) rfl rfl (by kernel_rfl) (by kernel_rfl) (by kernel_rfl) (fun _ _ _ h => h) (Or.inl ⟨by rfl, ?_⟩) hS ?_
       rotate_left
       ·(intro w hSw; (try dsimp only at hSw); go_simp; first | done | with_reducible rfl)
       simp only [sq1, sq2, sq3]
       refine wpAnyH_ready (rs := [13]) (by kernel_rfl) (by simp) ?_
       refine AllReadyH.cons rfl (fun K hK => ?_) AllReadyH.nil
       go_simp
       (go_at_call 83; refine (l1In_b _ _ _ _ _ HY.out).mono ?_; rintro e w2 ⟨rfl, hb2⟩)
       try go_wp2_with fail
       refine hK.out _ _ ?_ (fun hS2 => ?_)
       ·(clear hK K; ((go_split_ands; (try dsimp only); (repeat' (with_reducible apply And.intro)) <;> (repeat (first | with_reducible assumption | with_reducible apply keep_alloc | with_reducible apply keep_drew | with_reducible refine keep_below hb2 ?_ | ((with_reducible refine keep_set ?_ ?_); rotate_left; (simp <;> omega)))))))
       clear hS hK K
       have hS := hS2
       clear hS2
       refine wpT (i := 14) (v := ?_) rfl rfl (by kernel_rfl) (by kernel_rfl) (by kernel_rfl) (fun _ _ _ h => h) (Or.inl ⟨by rfl, ?_⟩) hS ?_
       rotate_left
       ·(intro w hSw; (try dsimp only at hSw); go_simp; first | done | with_reducible rfl)
       simp only [sq1, sq2, sq3]
       refine wpT (i := 15) (v := ?_) rfl rfl (by kernel_rfl) (by kernel_rfl) (by kernel_rfl) (fun _ _ _ h => h) (Or.inl ⟨by rfl, ?_⟩) hS ?_
       rotate_left
       ·(intro w hSw; (try dsimp only at hSw); go_simp; first | done | with_reducible rfl)
       simp only [sq1, sq2, sq3]
       refine wpT (i := 16) (v := ?_) rfl rfl (by kernel_rfl) (by kernel_rfl) (by kernel_rfl) (fun _ _ _ h => h) (Or.inl ⟨by rfl, ?_⟩) hS ?_
       rotate_left
       ·(intro w hSw; (try dsimp only at hSw); go_simp; first | done | with_reducible rfl)
       simp only [sq1, sq2, sq3]
       refine wpT (i := 17) (v := ?_) rfl rfl (by kernel_rfl) (by kernel_rfl) (by kernel_rfl) (fun _ _ _ h => h) (Or.inl ⟨by rfl, ?_⟩) hS ?_
       rotate_left
       ·(intro w hSw; (try dsimp only at hSw); go_simp; first | done | with_reducible rfl)
       simp only [sq1, sq2, sq3]
       refine wpT (i := 18) (v := ?_) rfl rfl (by kernel_rfl) (by kernel_rfl) (by kernel_rfl) (fun _ _ _ h => h) (Or.inl ⟨by rfl, ?_⟩) hS ?_
       rotate_left
       ·(intro w hSw; (try dsimp only at hSw); go_simp; first | done | with_reducible rfl)
       simp only [sq1, sq2, sq3]
       refine wpT (i := 19) (v := ?_) rfl rfl (by kernel_rfl) (by kernel_rfl) (by kernel_rfl) (fun _ _ _ h => h) (Or.inl ⟨by rfl, ?_⟩) hS ?_
       rotate_left
       ·(intro w hSw; (try dsimp only at hSw); go_simp; first | done | with_reducible rfl)
       simp only [sq1, sq2, sq3]
       refine wpT (i := 20) (v := ?_) rfl rfl (by kernel_rfl) (by kernel_rfl) (by kernel_rfl) (fun _ _ _ h => h) (Or.inl ⟨by rfl, ?_⟩) hS ?_
       rotate_left
       ·(intro w hSw; (try dsimp only at hSw); go_simp; first | done | with_reducible rfl)
       simp only [sq1, sq2, sq3]
       refine wpT (i := 21) (v := ?_) rfl rfl (by kernel_rfl) (by kernel_rfl) (by kernel_rfl) (fun _ _ _ h => h) (Or.inl ⟨by rfl, ?_⟩) hS ?_
       rotate_left
       ·(intro w hSw; (try dsimp only at hSw); go_simp; first | done | with_reducible rfl)
       simp only [sq1, sq2, sq3]
       refine wpT (i := 22) (v := ?_) rfl rfl (by kernel_rfl) (by kernel_rfl) (by kernel_rfl) (fun _ _ _ h => h) (Or.inl ⟨by rfl, ?_⟩) hS ?_
       rotate_left
       ·(intro w hSw; (try dsimp only at hSw); go_simp; first | done | with_reducible rfl)
       simp only [sq1, sq2, sq3]
       refine wpT (i := 23) (v := ?_) rfl rfl (by kernel_rfl) (by kernel_rfl) (by kernel_rfl) (fun _ _ _ h => h) (Or.inl ⟨by rfl, ?_⟩) hS ?_
       rotate_left
       ·(intro w hSw; (try dsimp only at hSw); go_simp; first | done | with_reducible rfl)
       simp only [sq1, sq2, sq3]
       refine wpT (i := 24) (v := ?_) rfl rfl (by kernel_rfl) (by kernel_rfl) (by kernel_rfl) (fun _ _ _ h => h) (Or.inl ⟨by rfl, ?_⟩) hS ?_
       rotate_left
       ·(intro w hSw; (try dsimp only at hSw); go_simp; first | done | with_reducible rfl)
       simp only [sq1, sq2, sq3]
       refine wpT (i := 25) (v := ?_) rfl rfl (by kernel_rfl) (by kernel_rfl) (by kernel_rfl) (fun _ _ _ h => h) (Or.inl ⟨by rfl, ?_⟩) hS ?_
       rotate_left
       ·(intro w hSw; (try dsimp only at hSw); go_simp; first | done | with_reducible rfl)
       simp only [sq1, sq2, sq3]
       refine wpT (i := 26) (v := ?_) rfl rfl (by kernel_rfl) (by kernel_rfl) (by kernel_rfl) (fun _ _ _ h => h) (Or.inl ⟨by rfl, ?_⟩) hS ?_
       rotate_left
       ·(intro w hSw; (try dsimp only at hSw); go_simp; first | done | with_reducible rfl)
       simp only [sq1, sq2, sq3]
       refine wpT (i := 27) (v := ?_) rfl rfl (by kernel_rfl) (by kernel_rfl) (by kernel_rfl) (fun _ _ _ h => h) (Or.inl ⟨by rfl, ?_⟩) hS ?_
       rotate_left
       ·(intro w hSw; (try dsimp only at hSw); go_simp; first | done | with_reducible rfl)
       simp only [sq1, sq2, sq3]
       refine wpT (i := 28) (v := ?_) rfl rfl (by kernel_rfl) (by kernel_rfl) (by kernel_rfl) (fun _ _ _ h => h) (Or.inl ⟨by rfl, ?_⟩) hS ?_
       rotate_left
       ·(intro w hSw; (try dsimp only at hSw); go_simp; first | done | with_reducible rfl)
       simp only [sq1, sq2, sq3]
       refine wpAnyH_ready (rs := [29]) (by kernel_rfl) (by simp) ?_
       refine AllReadyH.cons rfl (fun K hK => ?_) AllReadyH.nil
       go_simp
       (go_at_call 141; refine (l2Before_s _ _ _ _ _).mono ?_; rintro e w3 ⟨rfl, hb3⟩)
       try go_wp2_with fail
       refine hK.out _ _ ?_ (fun hS2 => ?_)
       ·(clear hK K; ((go_split_ands; (try dsimp only); (repeat' (with_reducible apply And.intro)) <;> (repeat (first | with_reducible assumption | with_reducible apply keep_alloc | with_reducible apply keep_drew | with_reducible refine keep_below hb3 ?_ | ((with_reducible refine keep_set ?_ ?_); rotate_left; (simp <;> omega)))))))
       clear hS hK K
       have hS := hS2
       clear hS2
       refine wpT (i := 30) (v := ?_) rfl rfl (by kernel_rfl) (by kernel_rfl) (by kernel_rfl) (fun _ _ _ h => h) (Or.inl ⟨by rfl, ?_⟩) hS ?_
       rotate_left
       ·(intro w hSw; (try dsimp only at hSw); go_simp; first | done | with_reducible rfl)
       simp only [sq1, sq2, sq3]
       refine wpT (i := 31) (v := ?_) rfl rfl (by kernel_rfl) (by kernel_rfl) (by kernel_rfl) (fun _ _ _ h => h) (Or.inl ⟨by rfl, ?_⟩) hS ?_
       rotate_left
       ·(intro w hSw; (try dsimp only at hSw); go_simp; first | done | with_reducible rfl)
       simp only [sq1, sq2, sq3]
       refine wpT (i := 32) (v := ?_) rfl rfl (by kernel_rfl) (by kernel_rfl) (by kernel_rfl) (fun _ _ _ h => h) (Or.inl ⟨by rfl, ?_⟩) hS ?_
       rotate_left
       ·(intro w hSw; (try dsimp only at hSw); go_simp; first | done | with_reducible rfl)
       simp only [sq1, sq2, sq3]
       refine wpAnyH_done (by kernel_rfl) ?_ _
       refine NoPanic.normal ?_
       go_wp2_with fail
       go_meet
       exact ⟨by rw [HV.out], (by (repeat (first | with_reducible exact Below.refl _ _ | with_reducible assumption | with_reducible apply bel_alloc | with_reducible apply bel_drew | with_reducible apply bel_drewN | ((with_reducible refine bel_set ?_ ?_); rotate_left; (simp <;> omega)) | (with_reducible refine bel_trans ?_ (by with_reducible assumption)))))⟩
      ·have hk3 : k = 0 := by omega
       have HV : Hid (shapeAt xs k (x, y) = true) := by unfold Hid shapeAt; rw [ho, hk3]; rfl
       have hk2 : decide ((0 : Int) < (k : Int)) = false := by simp; omega
       have hk4 : ¬ (0 : Int) < (k : Int) := by omega
       clear ho hk3
       refine wp_region_noPanic ?_
       refine wp_region_held_drew (S := (fun w' => w'.cell? ⟨g, off + k * 2, none⟩ = some (.int .i64 x) ∧ w'.cell? ⟨g, off + k * 2 + 1, none⟩ = some (.int .i64 y))) (by kernel_rfl) ?_ (fun hS => ?_)
       ·((go_split_ands; (try dsimp only); (repeat' (with_reducible apply And.intro)) <;> (repeat (first | with_reducible assumption | with_reducible apply keep_alloc | with_reducible apply keep_drew | with_reducible refine keep_below hb1 ?_ | ((with_reducible refine keep_set ?_ ?_); rotate_left; (simp <;> omega))))))
       refine wpT (i := 0) (v := ?_) rfl rfl (by kernel_rfl) (by kernel_rfl) (by kernel_rfl) (fun _ _ _ h => h) (Or.inl ⟨by rfl, ?_⟩) hS ?_
       rotate_left
       ·(intro w hSw; (try dsimp only at hSw); go_simp; first | done | with_reducible rfl)
       simp only [sq1, sq2, sq3]
       refine wpT (i := 1) (v := ?_) rfl rfl (by kernel_rfl) (by kernel_rfl) (by kernel_rfl) (fun _ _ _ h => h) (Or.inl ⟨by rfl, ?_⟩) hS ?_
       rotate_left
       ·(intro w hSw; (try dsimp only at hSw); go_simp; first | done | with_reducible rfl)
       simp only [sq1, sq2, sq3]
       refine wpT (i := 2) (v := ?_) rfl rfl (by kernel_rfl) (by kernel_rfl) (by kernel_rfl) (fun _ _ _ h => h) (Or.inl ⟨by rfl, ?_⟩) hS ?_
       rotate_left
       ·(intro w hSw; (try dsimp only at hSw); go_simp; first | done | with_reducible rfl)
       simp only [sq1, sq2, sq3]
       refine wpT (i := 3) (v := ?_) rfl rfl (by kernel_rfl) (by kernel_rfl) (by kernel_rfl) (fun _ _ _ h => h) (Or.inl ⟨by rfl, ?_⟩) hS ?_
       rotate_left
       ·(intro w hSw; (try dsimp only at hSw); go_simp; first | done | with_reducible rfl)
       simp only [sq1, sq2, sq3]
       refine wpT (i := 4) (v := ?_) rfl rfl (by kernel_rfl) (by kernel_rfl) (by kernel_rfl) (fun _ _ _ h => h) (Or.inl ⟨by rfl, ?_⟩) hS ?_
       rotate_left
       ·(intro w hSw; (try dsimp only at hSw); go_simp; first | done | with_reducible rfl)
       simp only [sq1, sq2, sq3]
       refine wpAnyH_ready (rs := [5]) (by kernel_rfl) (by simp) ?_
       refine AllReadyH.cons rfl (fun K hK => ?_) AllReadyH.nil
       go_simp
       (go_at_call 83; refine (l1In_b _ _ _ _ _ HX.out).mono ?_; rintro e w1 ⟨rfl, hb1⟩)
       try go_wp2_with fail
       refine hK.out _ _ ?_ (fun hS2 => ?_)
       ·(clear hK K; ((go_split_ands; (try dsimp only); (repeat' (with_reducible apply And.intro)) <;> (repeat (first | with_reducible assumption | with_reducible apply keep_alloc | with_reducible apply keep_drew | with_reducible refine keep_below hb1 ?_ | ((with_reducible refine keep_set ?_ ?_); rotate_left; (simp <;> omega)))))))
       clear hS hK K
       have hS := hS2
       clear hS2
       refine wpT (i := 6) (v := ?_) rfl rfl (by kernel_rfl) (by kernel_rfl) (by kernel_rfl) (fun _ _ _ h => h) (Or.inl ⟨by rfl, ?_⟩) hS ?_
       rotate_left
       ·(intro w hSw; (try dsimp only at hSw); go_simp; first | done | with_reducible rfl)
       simp only [sq1, sq2, sq3]
       refine wpT (i := 7) (v := ?_) rfl rfl (by kernel_rfl) (by kernel_rfl) (by kernel_rfl) (fun _ _ _ h => h) (Or.inl ⟨by rfl, ?_⟩) hS ?_
       rotate_left
       ·(intro w hSw; (try dsimp only at hSw); go_simp; first | done | with_reducible rfl)
       simp only [sq1, sq2, sq3]
       refine wpT (i := 8) (v := ?_) rfl rfl (by kernel_rfl) (by kernel_rfl) (by kernel_rfl) (fun _ _ _ h => h) (Or.inl ⟨by rfl, ?_⟩) hS ?_
       rotate_left
       ·(intro w hSw; (try dsimp only at hSw); go_simp; first | done | with_reducible rfl)
       simp only [sq1, sq2, sq3]
       refine wpT (i := 9) (v := ?_) rfl rfl (by kernel_rfl) (by kernel_rfl) (by kernel_rfl) (fun _ _ _ h => h) (Or.inl ⟨by rfl, ?_⟩) hS ?_
       rotate_left
       ·(intro w hSw; (try dsimp only at hSw); go_simp; first | done | with_reducible rfl)
       simp only [sq1, sq2, sq3]
       refine wpT (i := 10) (v := ?_) rfl rfl (by kernel_rfl) (by kernel_rfl) (by kernel_rfl) (fun _ _ _ h => h) (Or.inl ⟨by rfl, ?_⟩) hS ?_
       rotate_left
       ·(intro w hSw; (try dsimp only at hSw); go_simp; first | done | with_reducible rfl)
       simp only [sq1, sq2, sq3]
       refine wpT (i := 11) (v := ?_) rfl rfl (by kernel_rfl) (by kernel_rfl) (by kernel_rfl) (fun _ _ _ h => h) (Or.inl ⟨by rfl, ?_⟩) hS ?_
       rotate_left
       ·(intro w hSw; (try dsimp only at hSw); go_simp; first | done | with_reducible rfl)
       simp only [sq1, sq2, sq3]
       refine wpT (i := 12) (v := ?_) rfl rfl (by kernel_rfl) (by kernel_rfl) (by kernel_rfl) (fun _ _ _ h => h) (Or.inl ⟨by rfl, ?_⟩) hS ?_
       rotate_left
       ·(intro w hSw; (try dsimp only at hSw); go_simp; first | done | with_reducible rfl)
       simp only [sq1, sq2, sq3]
       refine wpAnyH_ready (rs := [13]) (by kernel_rfl) (by simp) ?_
       refine AllReadyH.cons rfl (fun K hK => ?_) AllReadyH.nil
       go_simp
       (go_at_call 83; refine (l1In_b _ _ _ _ _ HY.out).mono ?_; rintro e w2 ⟨rfl, hb2⟩)
       try go_wp2_with fail
       refine hK.out _ _ ?_ (fun hS2 => ?_)
       ·(clear hK K; ((go_split_ands; (try dsimp only); (repeat' (with_reducible apply And.intro)) <;> (repeat (first | with_reducible assumption | with_reducible apply keep_alloc | with_reducible apply keep_drew | with_reducible refine keep_below hb2 ?_ | ((with_reducible refine keep_set ?_ ?_); rotate_left; (simp <;> omega)))))))
       clear hS hK K
       have hS := hS2
       clear hS2
       refine wpT (i := 14) (v := ?_) rfl rfl (by kernel_rfl) (by kernel_rfl) (by kernel_rfl) (fun _ _ _ h => h) (Or.inl ⟨by rfl, ?_⟩) hS ?_
       rotate_left
       ·(intro w hSw; (try dsimp only at hSw); go_simp; first | done | with_reducible rfl)
       simp only [sq1, sq2, sq3]
       refine wpT (i := 15) (v := ?_) rfl rfl (by kernel_rfl) (by kernel_rfl) (by kernel_rfl) (fun _ _ _ h => h) (Or.inl ⟨by rfl, ?_⟩) hS ?_
       rotate_left
       ·(intro w hSw; (try dsimp only at hSw); go_simp; first | done | with_reducible rfl)
       simp only [sq1, sq2, sq3]
       refine wpT (i := 16) (v := ?_) rfl rfl (by kernel_rfl) (by kernel_rfl) (by kernel_rfl) (fun _ _ _ h => h) (Or.inl ⟨by rfl, ?_⟩) hS ?_
       rotate_left
       ·(intro w hSw; (try dsimp only at hSw); go_simp; first | done | with_reducible rfl)
       simp only [sq1, sq2, sq3]
       refine wpT (i := 17) (v := ?_) rfl rfl (by kernel_rfl) (by kernel_rfl) (by kernel_rfl) (fun _ _ _ h => h) (Or.inl ⟨by rfl, ?_⟩) hS ?_
       rotate_left
       ·(intro w hSw; (try dsimp only at hSw); go_simp; first | done | with_reducible rfl)
       simp only [sq1, sq2, sq3]
       refine wpT (i := 18) (v := ?_) rfl rfl (by kernel_rfl) (by kernel_rfl) (by kernel_rfl) (fun _ _ _ h => h) (Or.inl ⟨by rfl, ?_⟩) hS ?_
       rotate_left
       ·(intro w hSw; (try dsimp only at hSw); go_simp; first | done | with_reducible rfl)
       simp only [sq1, sq2, sq3]
       refine wpT (i := 19) (v := ?_) rfl rfl (by kernel_rfl) (by kernel_rfl) (by kernel_rfl) (fun _ _ _ h => h) (Or.inl ⟨by rfl, ?_⟩) hS ?_
       rotate_left
       ·(intro w hSw; (try dsimp only at hSw); go_simp; first | done | with_reducible rfl)
       simp only [sq1, sq2, sq3]
       refine wpT (i := 20) (v := undef) rfl rfl (by kernel_rfl) (by kernel_rfl) (by kernel_rfl) (fun _ _ _ h => h) (Or.inr ⟨by rfl, rfl⟩) hS ?_
       simp only [sq1, sq2, sq3]
       refine wpT (i := 21) (v := undef) rfl rfl (by kernel_rfl) (by kernel_rfl) (by kernel_rfl) (fun _ _ _ h => h) (Or.inr ⟨by rfl, rfl⟩) hS ?_
       simp only [sq1, sq2, sq3]
       refine wpT (i := 22) (v := undef) rfl rfl (by kernel_rfl) (by kernel_rfl) (by kernel_rfl) (fun _ _ _ h => h) (Or.inr ⟨by rfl, rfl⟩) hS ?_
       simp only [sq1, sq2, sq3]
       refine wpT (i := 23) (v := undef) rfl rfl (by kernel_rfl) (by kernel_rfl) (by kernel_rfl) (fun _ _ _ h => h) (Or.inr ⟨by rfl, rfl⟩) hS ?_
       simp only [sq1, sq2, sq3]
       refine wpT (i := 24) (v := undef) rfl rfl (by kernel_rfl) (by kernel_rfl) (by kernel_rfl) (fun _ _ _ h => h) (Or.inr ⟨by rfl, rfl⟩) hS ?_
       simp only [sq1, sq2, sq3]
       refine wpT (i := 25) (v := undef) rfl rfl (by kernel_rfl) (by kernel_rfl) (by kernel_rfl) (fun _ _ _ h => h) (Or.inr ⟨by rfl, rfl⟩) hS ?_
       simp only [sq1, sq2, sq3]
       refine wpT (i := 26) (v := undef) rfl rfl (by kernel_rfl) (by kernel_rfl) (by kernel_rfl) (fun _ _ _ h => h) (Or.inr ⟨by rfl, rfl⟩) hS ?_
       simp only [sq1, sq2, sq3]
       refine wpT (i := 27) (v := undef) rfl rfl (by kernel_rfl) (by kernel_rfl) (by kernel_rfl) (fun _ _ _ h => h) (Or.inr ⟨by rfl, rfl⟩) hS ?_
       simp only [sq1, sq2, sq3]
       refine wpT (i := 28) (v := undef) rfl rfl (by kernel_rfl) (by kernel_rfl) (by kernel_rfl) (fun _ _ _ h => h) (Or.inr ⟨by rfl, rfl⟩) hS ?_
       simp only [sq1, sq2, sq3]
       refine wpT (i := 29) (v := undef) rfl rfl (by kernel_rfl) (by kernel_rfl) (by kernel_rfl) (fun _ _ _ h => h) (Or.inr ⟨by rfl, rfl⟩) hS ?_
       simp only [sq1, sq2, sq3]
       refine wpT (i := 30) (v := undef) rfl rfl (by kernel_rfl) (by kernel_rfl) (by kernel_rfl) (fun _ _ _ h => h) (Or.inr ⟨by rfl, rfl⟩) hS ?_
       simp only [sq1, sq2, sq3]
       refine wpT (i := 31) (v := ?_) rfl rfl (by kernel_rfl) (by kernel_rfl) (by kernel_rfl) (fun _ _ _ h => h) (Or.inl ⟨by rfl, ?_⟩) hS ?_
       rotate_left
       ·(intro w hSw; (try dsimp only at hSw); go_simp; first | done | with_reducible rfl)
       simp only [sq1, sq2, sq3]
       refine wpT (i := 32) (v := ?_) rfl rfl (by kernel_rfl) (by kernel_rfl) (by kernel_rfl) (fun _ _ _ h => h) (Or.inl ⟨by rfl, ?_⟩) hS ?_
       rotate_left
       ·(intro w hSw; (try dsimp only at hSw); go_simp; first | done | with_reducible rfl)
       simp only [sq1, sq2, sq3]
       refine wpAnyH_done (by kernel_rfl) ?_ _
       refine NoPanic.normal ?_
       go_wp2_with fail
       go_meet
       exact ⟨by rw [HV.out]; rfl, (by (repeat (first | with_reducible exact Below.refl _ _ | with_reducible assumption | with_reducible apply bel_alloc | with_reducible apply bel_drew | with_reducible apply bel_drewN | ((with_reducible refine bel_set ?_ ?_); rotate_left; (simp <;> omega)) | (with_reducible refine bel_trans ?_ (by with_reducible assumption)))))⟩
   case rest =>
    obtain ⟨rfl, hb3⟩ := hcut
    cases hg : shapeAt xs k (x, y) with
    | true =>
     have HN : Hid (shapeTo xs (k + 1) = true) := by show shapeTo xs (k + 1) = true; rw [HS.out, HG.out, hg]; rfl
     clear hg
     go_wp2
     exact ⟨⟨k + 1, by omega, by go_num, HN.out, (by (repeat (first | with_reducible exact Below.refl _ _ | with_reducible assumption | with_reducible apply bel_alloc | with_reducible apply bel_drew | with_reducible apply bel_drewN | ((with_reducible refine bel_set ?_ ?_); rotate_left; (simp <;> omega)) | (with_reducible refine bel_trans ?_ (by with_reducible assumption)))))⟩, by simp [intOf]; omega⟩
    | false =>
     have HN := Lib.hid (HNO.out hg)
     clear hg
     go_wp2
     go_ret
     exact ⟨by rw [HN.out]; rfl, (by (repeat (first | with_reducible exact Below.refl _ _ | with_reducible assumption | with_reducible apply bel_alloc | with_reducible apply bel_drew | with_reducible apply bel_drewN | ((with_reducible refine bel_set ?_ ?_); rotate_left; (simp <;> omega)) | (with_reducible refine bel_trans ?_ (by with_reducible assumption)))))⟩
  ·have hkk : k = n := by omega
   subst hkk
   have hv : isShape xs = (decide ((1 : Int) ≤ (k : Int)) && decide ((k : Int) ≤ 8)) := by
    unfold isShape
    rw [HL.out, hgo]
    rw [Bool.true_and]
    congr 1 <;> (rw [decide_eq_decide]; omega)
   have HV := Lib.hid hv
   clear hgo hv
   go_wp2_with (go_at_call 83; refine (l1In_b _ _ _ (isShape xs) _ HV.out).mono ?_; rintro e w1 ⟨rfl, hb1⟩)
   go_ret
   exact ⟨rfl, (by (repeat (first | with_reducible exact Below.refl _ _ | with_reducible assumption | with_reducible apply bel_alloc | with_reducible apply bel_drew | with_reducible apply bel_drewN | ((with_reducible refine bel_set ?_ ?_); rotate_left; (simp <;> omega)) | (with_reducible refine bel_trans ?_ (by with_reducible assumption)))))⟩
end

section
attribute [local go_sem ↓] Go.wp_at_zero Go.wp_at_succ
def cor7 (c : C) : Prop := (0 ≤ c.1 ∧ c.1 ≤ 7) ∧ (0 ≤ c.2 ∧ c.2 ≤ 7)
theorem cornS_cor {xs : List C} (hs : isShape xs = true) : ∀ c ∈ cornS xs, cor7 c := by
 intro c hc
 have hl := shape_len hs
 unfold cornS at hc
 rw [mv_mem] at hc
 have h6 := shape_onB hs _ hc
 have h7 := minC_le (·.1) hc
 have h8 := minC_le (·.2) hc
 obtain ⟨a, ha, e⟩ := minC_at (·.1) (show 0 < xs.length by omega)
 obtain ⟨b, hb, f⟩ := minC_at (·.2) (show 0 < xs.length by omega)
 have h9 := shape_onB hs a ha
 have h10 := shape_onB hs b hb
 simp only [onB, Bool.and_eq_true, decide_eq_true_eq] at h6 h9 h10
 simp only at h7 h8
 unfold cor7
 omega
def RetCor (w : World) (e : Ending) (w' : World) : Prop := ∃ D k cD ys, e = .returned (.slice D k cD) ∧ Rd w' D (vC ys) ∧ ys.length = k ∧ k ≤ 8 ∧ (∀ c ∈ ys, cor7 c) ∧ Below w.heap.size w w'
theorem CornerAny_s (A : Option Addr) (n c : Nat) (xs : List C) (w : World) (hr : Rd w A (vC xs)) (hl : xs.length = n) (hn : n ≤ 1099511627776) :
  Calls Tryz.prog 44 #[.slice A n c] w (RetCor w) := by
 have HL := Lib.hid hl
 have HR := Lib.hid hr
 clear hl hr
 cases hs : isShape xs with
 | false =>
  have HS := Lib.hid hs
  clear hs
  go_enter Tryz.func44, Tryz.ntmps44
  go_wp2_with fail
  refine (IsShape_s A n c xs _ HR.out HL.out hn).mono ?_
  rw [HS.out]
  rintro e w1 ⟨rfl, hb1⟩
  go_wp2_with fail
  go_ret
  exact ⟨_, 0, 0, [], rfl, .inl rfl, rfl, by omega, by simp, bel_alloc hb1 _⟩
 | true =>
  have hn8 := (shape_len hs).2
  have hsm := shape_small hs
  have hco := cornS_cor hs
  have hcl : (cornS xs).length = xs.length := mv_len _ _ _
  have HS := Lib.hid hs
  have HSM := Lib.hid hsm
  have HCO := Lib.hid hco
  rw [HL.out] at hn8 hcl
  have HCL := Lib.hid hcl
  clear hs hsm hco hcl
  go_enter Tryz.func44, Tryz.ntmps44
  go_wp2_with fail
  refine (IsShape_s A n c xs _ HR.out HL.out hn).mono ?_
  rw [HS.out]
  rintro e w1 ⟨rfl, hb1⟩
  go_wp2_with fail
  refine (l2Corner_s A n c xs _ (HR.out.below hb1) HL.out (by omega) HSM.out).mono ?_
  rintro e w2 ⟨D, m, cd, rfl, hO, hb2⟩
  obtain rfl : m = n := by have h1 := own_len hO; rw [vC_length, HCL.out] at h1; omega
  have HO := Lib.hid (Rd.of_own hO)
  clear hO
  go_wp2_with fail
  go_ret
  exact ⟨D, m, cd, _, rfl, HO.out, HCL.out, by omega, HCO.out, bel_trans hb1 hb2⟩
def RetStr (w : World) (e : Ending) (w' : World) : Prop := ∃ t : ByteArray, e = .returned (.string t) ∧ t.size ≤ 1000 ∧ Below w.heap.size w w'
theorem FormatShape_s (A : Option Addr) (n c : Nat) (xs : List C) (w : World) (hr : Rd w A (vC xs)) (hl : xs.length = n) (hn : n ≤ 1099511627776) :
  Calls Tryz.prog 157 #[.slice A n c] w (RetStr w) := by
 go_enter Tryz.func157, Tryz.ntmps157
 go_wp2_with fail
 refine (CornerAny_s A n c xs w hr hl hn).mono ?_
 rintro e w1 ⟨D, k, cD, ys, rfl, hrd, hyl, hk8, hco, hb1⟩
 have HR := Lib.hid hrd
 have HYL := Lib.hid hyl
 have HCO := Lib.hid hco
 have HB1 := Lib.hid hb1
 clear hr hl hrd hyl hco hb1
 go_wp2_with fail
 go_loopw [4, 5, 6, 7] (fun e4 e5 e6 e7 wr => ∃ (i x y : Nat) (t : ByteArray), i ≤ k ∧ x ≤ 7 + i ∧ y ≤ 7 ∧ t.size ≤ 15 * i + y ∧ e4 = .string t ∧ e5 = .int .i64 x ∧ e6 = .int .i64 y ∧ e7 = .int .i64 i ∧ Below w1.heap.size w1 wr) (fun _ _ _ e7 _ => k - (intOf e7).toNat)
 case atStart => exact ⟨0, 0, 0, _, Nat.zero_le _, by omega, by omega, by show 0 ≤ _; omega, rfl, rfl, rfl, rfl, Below.refl _ _⟩
 case round =>
  obtain ⟨i, x, y, t, hi, hx, hy, ht, rfl, rfl, rfl, rfl, hb⟩ := hrel
  by_cases hlt : i < k
  ·have hi0 : (0 : Int) ≤ (i : Int) := by omega
   have hi1 : (i : Int) < (k : Int) := by omega
   have hky : i < ys.length := by rw [HYL.out]; exact hlt
   obtain ⟨g, off, hD, hg, c1, c2⟩ := RdC.at_ (HR.out.below hb) hky
   have hcc := HCO.out _ (List.getElem_mem hky)
   obtain ⟨⟨u, v⟩, huv⟩ : ∃ p, ys[i] = p := ⟨_, rfl⟩
   rw [huv] at c1 c2 hcc
   subst hD
   unfold cor7 at hcc
   simp only at hcc c1 c2
   obtain ⟨⟨hu0, hu7⟩, hv0, hv7⟩ := hcc
   clear huv
   have HB := Lib.hid hb
   clear hb
   go_wp2_with fail
   go_loopw [4, 5, 6] (fun e4 e5 e6 wq => ∃ (x2 y2 : Nat) (t2 : ByteArray), x2 ≤ 7 + i ∧ y2 ≤ 7 ∧ t2.size ≤ 15 * i + y2 ∧ e4 = .string t2 ∧ e5 = .int .i64 x2 ∧ e6 = .int .i64 y2 ∧ wq = wr) (fun _ _ e6 _ => 8 - (intOf e6).toNat)
   case atStart => exact ⟨x, y, t, hx, hy, ht, rfl, rfl, rfl, rfl⟩
   case round =>
    clear hx hy ht
    obtain ⟨x2, y2, t2, hx, hy, ht, rfl, rfl, rfl, rfl⟩ := hrel
    by_cases hyv : (y2 : Int) < v
    ·have hsz : (t2.size : Int) + 1 ≤ 1000 := by omega
     go_wp2_with fail
     exact ⟨⟨0, y2 + 1, _, by omega, by omega, by show (t2 ++ _).size ≤ _; rw [ByteArray.size_append]; show t2.size + 1 ≤ _; omega, rfl, rfl, by go_num, trivial⟩, by simp [intOf]; omega⟩
    ·have hsz : (t2.size : Int) + 1 ≤ 1000 := by omega
     go_wp2_with fail
     go_loopw [4, 5] (fun e4 e5 wq => ∃ (x3 : Nat) (t3 : ByteArray), x2 ≤ x3 ∧ (x3 ≤ 7 ∨ x3 = x2) ∧ t3.size + x2 ≤ 15 * i + y2 + x3 ∧ e4 = .string t3 ∧ e5 = .int .i64 x3 ∧ wq = wr) (fun _ e5 _ => 8 - (intOf e5).toNat)
     case atStart => exact ⟨x2, t2, Nat.le_refl _, .inr rfl, by omega, rfl, rfl, rfl⟩
     case round =>
      obtain ⟨x3, t3, h31, h32, h33, rfl, rfl, rfl⟩ := hrel
      by_cases hxu : (x3 : Int) < u
      ·have hsz3 : (t3.size : Int) + 1 ≤ 1000 := by omega
       go_wp2_with fail
       exact ⟨⟨x3 + 1, _, by omega, by omega, by show (t3 ++ _).size + _ ≤ _; rw [ByteArray.size_append]; show t3.size + 1 + _ ≤ _; omega, rfl, by go_num, trivial⟩, by simp [intOf]; omega⟩
      ·have hsz3 : (t3.size : Int) + 1 ≤ 1000 := by omega
       go_wp2_with fail
       exact ⟨⟨i + 1, x3 + 1, y2, _, by omega, by omega, hy, by show (t3 ++ _).size ≤ _; rw [ByteArray.size_append]; show t3.size + 1 ≤ _; omega, rfl, by go_num, rfl, by go_num, HB.out⟩, by simp [intOf]; omega⟩
  ·have hi1 : ¬ (i : Int) < (k : Int) := by omega
   go_wp2_with fail
   go_ret
   exact ⟨t, rfl, by omega, bel_trans HB1.out hb⟩
theorem u8_neq {b k : UInt8} (h : ¬ b = k) : ((b.toNat : Int) == (k.toNat : Int)) = false := by
 rw [beq_eq_false_iff_ne]
 intro e
 exact h (UInt8.toNat_inj.1 (by omega))
def RetPS (w : World) (e : Ending) (w' : World) : Prop := ∃ D k cD xs b, e = .returned (.tuple #[.slice D k cD, .bool b]) ∧ Rd w' D (vC xs) ∧ xs.length = k ∧ k ≤ 70 ∧ k ≤ cD ∧ Below w.heap.size w w' ∧ ∀ b, ob D = some b → w.heap.size ≤ b
theorem ParseShape_s (t : ByteArray) (w : World) (h1 : 1 ≤ t.size) (h70 : t.size ≤ 70) :
  Calls Tryz.prog 112 #[.string t] w (RetPS w) := by
 have hini : (w.alloc (.cells #[] 87)).ownsRow w.heap.size 87 2 (.slice (some ⟨w.heap.size, 0, none⟩) 0 0) 0 (vC []) := own_new w _ 2 0 #[] rfl (by simp [maxLen]) (Nat.le_refl _)
 have HI := Lib.hid hini
 have hsz : (t.size : Int) ≤ 70 := by omega
 clear hini
 go_enter Tryz.func112, Tryz.ntmps112
 go_wp2_with fail
 go_loopw [4, 5, 6, 7] (fun e4 e5 e6 e7 wr => ∃ (i x y k cD : Nat) (D : Option Addr) (xs : List C), i ≤ t.size ∧ x ≤ i ∧ y ≤ i ∧ k ≤ i ∧ xs.length = k ∧ wr.ownsRow w.heap.size 87 2 (.slice D k cD) k (vC xs) ∧ e4 = .slice D k cD ∧ e5 = .int .i64 x ∧ e6 = .int .i64 y ∧ e7 = .int .i64 i ∧ Below w.heap.size w wr) (fun _ _ _ e7 _ => t.size - (intOf e7).toNat)
 case atStart => exact ⟨0, 0, 0, 0, 0, _, [], Nat.zero_le _, by omega, by omega, by omega, rfl, HI.out, rfl, rfl, rfl, rfl, bel_alloc (Below.refl _ _) _⟩
 case round =>
  clear HI
  obtain ⟨i, x, y, k, cD, D, xs, hi, hx, hy, hk, hxl, hO, rfl, rfl, rfl, rfl, hb⟩ := hrel
  have HO := Lib.hid hO
  have HXL := Lib.hid hxl
  have hcap := own_capD hO
  clear hO hxl
  by_cases hlt : i < t.size
  ·have hi0 : (0 : Int) ≤ (i : Int) := by omega
   have hi1 : (i : Int) < (t.size : Int) := by omega
   by_cases e1 : t[i] = 35
   ·have hsel : ((t[i].toNat : Int) == 35) = true := by rw [e1]; rfl
    have hsw : w.heap.size ≤ wr.heap.size := hb.size
    have hlt2 := (own_lt HO.out)
    clear e1
    go_wp2_with (at_builtin; go_must (refine app_C _ rfl _ _ rfl w.heap.size _ _ _ xs rfl (HO.out.alloc _) _ _ _ [((x : Int), (y : Int))] rfl (rd_newC _ _ _ _) rfl (by omega) (by simp; omega) ?_); intro D6 c6 w8 ho6 hg6 hat6; have HO8 := Lib.hid ho6; have HG8 := Lib.hid hg6; clear ho6 hg6 hat6)
    exact ⟨⟨i + 1, x + 1, y, k + 1, c6, D6, _, by omega, by omega, by omega, by omega, by have := HXL.out; simp; omega, HO8.out, rfl, by go_num, rfl, by go_num, bel_app (bel_alloc hb _) HG8.out (fun b e => (hlt2 b e).1)⟩, by simp [intOf]; omega⟩
   ·have hsel : ((t[i].toNat : Int) == 35) = false := u8_neq e1
    by_cases e2 : t[i] = 46
    ·have hsel2 : ((t[i].toNat : Int) == 46) = true := by rw [e2]; rfl
     clear e1 e2
     go_wp2_with fail
     exact ⟨⟨i + 1, x + 1, y, k, cD, D, xs, by omega, by omega, by omega, by omega, HXL.out, HO.out, rfl, by go_num, rfl, by go_num, hb⟩, by simp [intOf]; omega⟩
    ·have hsel2 : ((t[i].toNat : Int) == 46) = false := u8_neq e2
     by_cases e3 : t[i] = 47
     ·have hsel3 : ((t[i].toNat : Int) == 47) = true := by rw [e3]; rfl
      clear e1 e2 e3
      go_wp2_with fail
      exact ⟨⟨i + 1, 0, y + 1, k, cD, D, xs, by omega, by omega, by omega, by omega, HXL.out, HO.out, rfl, rfl, by go_num, by go_num, hb⟩, by simp [intOf]; omega⟩
     ·have hsel3 : ((t[i].toNat : Int) == 47) = false := u8_neq e3
      clear e1 e2 e3
      go_wp2_with fail
      go_ret2
      exact ⟨_, 0, 0, [], _, rfl, .inl rfl, rfl, by omega, by omega, bel_alloc hb _, fun b e => by simp only [ob, Option.map_some, Option.some.injEq] at e; have := hb.size; omega⟩
  ·have hi1 : ¬ (i : Int) < (t.size : Int) := by omega
   go_wp2_with fail
   ·go_ret2
    exact ⟨_, 0, 0, [], _, rfl, .inl rfl, rfl, by omega, by omega, bel_alloc hb _, fun b e => by simp only [ob, Option.map_some, Option.some.injEq] at e; have := hb.size; omega⟩
   ·refine (FormatShape_s D k cD xs wr (Rd.of_own HO.out) HXL.out (by omega)).mono ?_
    rintro e w2 ⟨t2, rfl, ht2, hb2⟩
    have HO2 := Lib.hid (own_keep HO.out hb2)
    have HB2 := Lib.hid (bel_trans hb hb2)
    clear hb2 ht2
    go_wp2_with fail
    all_goals go_ret2
    all_goals first | exact ⟨D, k, cD, xs, true, rfl, Rd.of_own HO2.out, HXL.out, by omega, hcap, HB2.out, fun b e => (own_lt HO2.out b e).1⟩ | exact ⟨_, 0, 0, [], _, rfl, .inl rfl, rfl, by omega, by omega, bel_alloc HB2.out _, fun b e => by simp only [ob, Option.map_some, Option.some.injEq] at e; have := HB2.out.size; omega⟩
end

section
attribute [local go_sem ↓] Go.wp_at_zero Go.wp_at_succ
def RetNd (w : World) (m : Nat) (e : Ending) (w' : World) : Prop := ∃ q : Nat, e = .returned (.int .i64 ((q : Int) - 1)) ∧ q < m ∧ Below w.heap.size w w'
def RetCl (w : World) (e : Ending) (w' : World) : Prop := ∃ D k cD xs, e = .returned (.slice D k cD) ∧ Rd w' D (vC xs) ∧ xs.length = k ∧ k ≤ 1048576 ∧ k ≤ cD ∧ Below w.heap.size w w'
theorem l1Once_s (A : Option Addr) (n c g k : Nat) (bs : List UInt8) (w : World) (hc : Cur w g A n c bs) (hn : n ≤ 1048576) (hk1 : 1 ≤ k) (hk : k ≤ 256) :
  Calls Tryz.prog 106 #[.pointer (some ⟨g, 0, none⟩), .int .i64 (k : Int)] w (fun e w' => ∃ b : Bool, e = .returned (.bool b) ∧ Cur w' g A n c bs ∧ w.grownBy w' (some g)) := by
 go_enter Tryz.func106, Tryz.ntmps106
 go_wp2_with fail
 refine (l1Below_s A n c g k bs w hc hn hk1 hk).mono ?_
 rintro e w2 ⟨q, rfl, hq, hc2, hg2⟩
 have HC2 := Lib.hid hc2
 have HG2 := Lib.hid hg2
 clear hc2 hg2 hc
 go_wp2_with fail
 go_ret
 exact ⟨_, rfl, HC2.out, HG2.out⟩
end

section
attribute [local go_sem ↓] Go.wp_at_zero Go.wp_at_succ
def cutTo (l : List Int) (n : Int) : Nat → Nat
 | 0 => 0
 | k + 1 => if n < l.getD k 0 then cutTo l n k else k + 1
theorem cutTo_le (l : List Int) (n : Int) (k : Nat) : cutTo l n k ≤ k := by
 induction k with
 | zero => exact Nat.le_refl _
 | succ k ih => unfold cutTo; split <;> omega
def putI (l : List Int) (n : Int) : List Int :=
 if 0 < cutTo l n l.length ∧ l.getD (cutTo l n l.length - 1) 0 = n then l else l.take (cutTo l n l.length) ++ [n] ++ l.drop (cutTo l n l.length)
def RetO (w : World) (base E sz : Nat) (vs : List Value) (e : Ending) (w' : World) : Prop :=
 ∃ g n c, e = .returned (.slice (some ⟨g, 0, none⟩) n c) ∧ w'.ownsRow base E sz (.slice (some ⟨g, 0, none⟩) n c) n vs ∧ Below w.heap.size w w'
theorem run_upto (w : World) (g m c k : Nat) (hk : k ≤ c) : (Instr.slice 24 (.slice (some ⟨g, 0, none⟩) m c) none (some (.int .i64 (k : Int))) none).run Tryz.prog w = .ok (.slice (some ⟨g, 0, none⟩) k c) w := by
 have h2 : (k : Int) ≤ (c : Int) := by omega
 simp [go_sem, h2]
def offK (c k : Nat) : Nat := if c = k then 0 else k
theorem run_from (w : World) (g m c k : Nat) (hk : k ≤ m) : (Instr.slice 24 (.slice (some ⟨g, 0, none⟩) m c) (some (.int .i64 (k : Int))) none none).run Tryz.prog w = .ok (.slice (some ⟨g, offK c k, none⟩) (m - k) (c - k)) w := by
 have h1 : (0 : Int) ≤ (k : Int) := by omega
 have h2 : (k : Int) ≤ (m : Int) := by omega
 unfold offK
 by_cases hc : c = k
 ·subst hc
  simp [go_sem, h2]
 ·simp [go_sem, h2, hc]
theorem Rd.from_ {w : World} {g c k m : Nat} {l : List Int} (h : Rd w (some ⟨g, 0, none⟩) (vI l)) (hl : l.length = m) (hmc : m ≤ c) : Rd w (some ⟨g, offK c k, none⟩) (vI (l.drop k)) := by
 have h2 := Rd.drop h k c (by rw [vI_length]; omega)
 rw [vI_drop]
 unfold offK
 split
 ·next e => rw [if_pos e] at h2; exact h2
 ·next e =>
  rw [if_neg e] at h2
  have e2 : (some ⟨g, 0, none⟩ : Option Addr).map (·.add k) = some ⟨g, k, none⟩ := by simp only [Option.map_some]; unfold Addr.add; split <;> simp_all
  rw [e2] at h2
  exact h2
theorem putI_same {l : List Int} {n : Int} {k : Nat} (hk : cutTo l n l.length = k) (h0 : 0 < k) (h1 : l.getD (k - 1) 0 = n) : putI l n = l := by unfold putI; rw [hk, if_pos ⟨h0, h1⟩]
theorem putI_new {l : List Int} {n : Int} {k : Nat} (hk : cutTo l n l.length = k) (h1 : ¬ (0 < k ∧ l.getD (k - 1) 0 = n)) : putI l n = l.take k ++ [n] ++ l.drop k := by unfold putI; rw [hk, if_neg h1]
theorem l7Put_s (g m c : Nat) (l : List Int) (v : Int) (base : Nat) (w : World) (ho : w.ownsRow base 3 1 (.slice (some ⟨g, 0, none⟩) m c) m (vI l)) (hb0 : base ≤ w.heap.size) (hm : m ≤ 1099511627775) :
  Calls Tryz.prog 135 #[.slice (some ⟨g, 0, none⟩) m c, .int .i64 v] w (RetO w base 3 1 (vI (putI l v))) := by
 have hlm : l.length = m := by have := own_len ho; rw [vI_length] at this; omega
 have hmc : m ≤ c ∧ c ≤ 9223372036854775807 := by
  rcases ho.2 with ⟨h, _⟩ | ⟨g', cap, cur, hv, _, _, h1, h2, _⟩
  ·cases h
  ·injection hv with _ _ h3
   unfold maxLen at h2
   omega
 have hrd := Rd.of_own ho
 have hm' : cutTo l v l.length = cutTo l v m := by rw [hlm]
 have HL := Lib.hid hlm
 have HO := Lib.hid ho
 have HCM := Lib.hid hm'
 clear hlm ho hm'
 go_enter Tryz.func135, Tryz.ntmps135
 go_wp2
 go_loopw [5] (fun e wr => ∃ k : Nat, k ≤ m ∧ e = .int .i64 k ∧ cutTo l v m = cutTo l v k ∧ Below w.heap.size w wr) (fun e _ => (intOf e).toNat)
 case atStart => exact ⟨m, Nat.le_refl _, rfl, rfl, Below.refl _ _⟩
 case round =>
  obtain ⟨k, hk, rfl, hcut, hb⟩ := hrel
  have hrw := hrd.below hb
  -- what stands behind the loop
  have HIN : Hid (∀ (k' : Nat), cutTo l v m = k' → k' ≤ m → ¬ (0 < k' ∧ l.getD (k' - 1) 0 = v) → putI l v = l.take k' ++ [v] ++ l.drop k') := fun k' h1 h2 h3 => putI_new (HCM.out.trans h1) h3
  by_cases hk0 : 0 < k
  ·obtain ⟨j, hjk⟩ : ∃ j, k = j + 1 := ⟨k - 1, by omega⟩
   have hjl : j < l.length := by rw [HL.out]; omega
   obtain ⟨g', off, he, _, c1⟩ := RdI.at_ hrw hjl
   simp only [Option.some.injEq, Addr.mk.injEq, and_true] at he
   obtain ⟨rfl, rfl⟩ := he
   rw [Nat.zero_add] at c1
   have hgd : l.getD j 0 = l[j] := by rw [List.getD_eq_getElem?_getD, List.getElem?_eq_getElem hjl]; rfl
   obtain ⟨x, hx⟩ : ∃ x, l[j] = x := ⟨_, rfl⟩
   rw [hx] at c1 hgd
   have HG := Lib.hid hgd
   have hj1 : (k : Int) - 1 = (j : Int) := by omega
   have hj0 : (0 : Int) ≤ (j : Int) := by omega
   have hjm : (j : Int) < (m : Int) := by omega
   have hjp : (0 : Int) < (k : Int) := by omega
   have HJ := Lib.hid hjk
   rw [hjk] at hcut
   have HC := Lib.hid hcut
   clear hgd hx hcut hjk
   by_cases hvx : v < x
   ·have HN : Hid (cutTo l v m = cutTo l v j) := by show cutTo l v m = _; rw [HC.out]; show (if v < l.getD j 0 then _ else _) = _; rw [HG.out, if_pos hvx]
    go_wp2_with fail
    exact ⟨⟨j, by omega, rfl, HN.out, hb⟩, by simp [intOf]; have := HJ.out; omega⟩
   ·have HN : Hid (cutTo l v m = k) := by show cutTo l v m = _; rw [HC.out, HJ.out]; show (if v < l.getD j 0 then _ else _) = _; rw [HG.out, if_neg hvx]
    have hvd : decide (v < x) = false := by simpa using hvx
    by_cases hxv : x = v
    ·subst hxv
     have HV := Lib.hid (putI_same (HCM.out.trans HN.out) (by omega) (by rw [HJ.out]; exact HG.out))
     have e1 : (x == x) = true := by simp
     go_wp2
     go_ret
     exact ⟨_, _, _, rfl, by rw [HV.out]; exact own_keep HO.out hb, hb⟩
    ·have HV := Lib.hid (HIN.out k HN.out hk (fun h => hxv (by rw [← HG.out]; have := h.2; rwa [HJ.out] at this)))
     have e1 : (x == v) = false := by simpa using hxv
     clear hxv hvx
     go_wp2_with fail
     obtain ⟨i0, hi, hz0, hz1, hz2⟩ := info_parts infoI
     have hs1 : ∀ w', (Instr.slice 24 (.slice (some ⟨g, 0, none⟩) m c) none (some (.int .i64 ((k : Int)))) none).run Tryz.prog w' = .ok (.slice (some ⟨g, 0, none⟩) (k) c) w' := fun w' => run_upto w' g m c (k) (by omega)
     have hs2 : ∀ w', (Instr.slice 24 (.slice (some ⟨g, 0, none⟩) m c) (some (.int .i64 ((k : Int)))) none none).run Tryz.prog w' = .ok (.slice (some ⟨g, offK c (k), none⟩) (m - (k)) (c - (k))) w' := fun w' => run_from w' g m c (k) (by omega)
     have r2 : Rd wr (some ⟨g, offK c (k), none⟩) (vI (l.drop (k))) := Rd.from_ hrw HL.out hmc.1
     have r1 : Rd wr (some ⟨g, 0, none⟩) (vI (l.take (k))) := by rw [vI_take]; exact Rd.take hrw _
     have L1 : Hid ((l.take (k)).length = k) := by show (l.take (k)).length = k; rw [List.length_take, HL.out]; omega
     have L2 : Hid ((l.drop (k)).length = m - (k)) := by show (l.drop (k)).length = m - (k); rw [List.length_drop, HL.out]
     have R1 := Lib.hid r1
     have R2 := Lib.hid r2
     have HI := Lib.hid hi
     have HZ0 := Lib.hid hz0
     have HZ1 := Lib.hid hz1
     have HZ2 := Lib.hid hz2
     clear r1 r2 hi hz0 hz1 hz2
     refine wp_region_rg 13 rfl (by kernel_rfl) ?_
     (refine rgT (i := 1) (v := ?_) rfl rfl (by kernel_rfl) (by kernel_rfl) (by kernel_rfl) (by rfl) (fun w' hcw => ?_) ?_; rotate_left; ((try dsimp only at hcw); have hbc := hcw.cells; go_simp; first | done | with_reducible rfl); simp only [sq1, sq2, sq3])
     (refine rgT (i := 2) (v := ?_) rfl rfl (by kernel_rfl) (by kernel_rfl) (by kernel_rfl) (by rfl) (fun w' hcw => ?_) ?_; rotate_left; ((try dsimp only at hcw); have hbc := hcw.cells; go_simp; first | done | with_reducible rfl); simp only [sq1, sq2, sq3])
     (refine rgT (i := 3) (v := ?_) rfl rfl (by kernel_rfl) (by kernel_rfl) (by kernel_rfl) (by rfl) (fun w' hcw => ?_) ?_; rotate_left; ((try dsimp only at hcw); have hbc := hcw.cells; go_simp; first | done | with_reducible rfl); simp only [sq1, sq2, sq3])
     (refine rgT (i := 5) (v := ?_) rfl rfl (by kernel_rfl) (by kernel_rfl) (by kernel_rfl) (by rfl) (fun w' hcw => ?_) ?_; rotate_left; ((try dsimp only at hcw); have hbc := hcw.cells; go_simp; first | done | with_reducible rfl); simp only [sq1, sq2, sq3])
     (refine rgT (i := 8) (v := ?_) rfl rfl (by kernel_rfl) (by kernel_rfl) (by kernel_rfl) (by rfl) (fun w' hcw => ?_) ?_; rotate_left; ((try dsimp only at hcw); have hbc := hcw.cells; go_simp; first | done | with_reducible rfl); simp only [sq1, sq2, sq3])
     (refine rgT (i := 9) (v := ?_) rfl rfl (by kernel_rfl) (by kernel_rfl) (by kernel_rfl) (by rfl) (fun w' hcw => ?_) ?_; rotate_left; ((try dsimp only at hcw); have hbc := hcw.cells; go_simp; first | done | with_reducible rfl); simp only [sq1, sq2, sq3])
     (refine rgT (i := 10) (v := ?_) rfl rfl (by kernel_rfl) (by kernel_rfl) (by kernel_rfl) (by rfl) (fun w' hcw => ?_) ?_; rotate_left; ((try dsimp only at hcw); have hbc := hcw.cells; go_simp; first | done | with_reducible rfl); simp only [sq1, sq2, sq3])
     refine ins_tail (T := 24) (e := 3) (i := i0) (z := .int .i64 0) (size := 1) (bytes := 8) (i0 := 0) (iA := 4) (iN := 6) (iB := 7) (iD := 11) (iE := 12) (s0 := 33) (sA := 37) (sN := 39) (sB := 40) (sD := 44) (dE := 4) (t1 := 36) (t2 := 43) (xn := .tmp 38) (vn := .int .i64 v) (news := vI [v]) (vs1 := vI (l.take (k))) (vs2 := vI (l.drop (k))) (A1 := some ⟨g, 0, none⟩) (m1 := k) (c1 := c) (A2 := some ⟨g, offK c (k), none⟩) (m2 := m - (k)) (c2 := c - (k)) _ ?ht ?hi ?hz ?h1 ?h2 rfl (by omega) ⟨⟨_, rfl, rfl, rfl, fun a w => ?p0⟩, ⟨_, rfl, rfl, rfl, rfl⟩, ⟨_, rfl, rfl, rfl, fun a w h => ?pN⟩, ⟨_, rfl, rfl, rfl, rfl⟩, ⟨_, rfl, rfl, rfl, rfl⟩, ⟨_, rfl, rfl, rfl, rfl⟩⟩ ⟨by simp, by decide, by decide, by decide⟩ (fun a h => (h.eval (by decide)).trans rfl) (by kernel_rfl) (by kernel_rfl) (by kernel_rfl) (by kernel_rfl) (by kernel_rfl) (by decide) (by decide) (by kernel_rfl) (by kernel_rfl) (by kernel_rfl) (by kernel_rfl) rfl ?q1 ?l1 ?o1 rfl ?q2 ?l2 ?o2 ?ln ?on ?hm ?hb ?hQ
     case ht => exact Tryz.underlying24
     case hi => exact HI.out
     case hz => exact HZ0.out
     case h1 => exact HZ1.out
     case h2 => exact HZ2.out
     case p0 => simp [go_sem, execOp]
     case pN => (generalize Act.eval a = ρ at h ⊢; simp [go_sem, execOp, h, vI])
     case q1 => exact R1.out
     case l1 => rw [vI_length, L1.out] <;> omega
     case o1 => exact vI_one _
     case q2 => exact R2.out
     case l2 => rw [vI_length, L2.out] <;> omega
     case o2 => exact vI_one _
     case ln => rfl
     case on => exact vI_one _
     case hm => omega
     case hb => omega
     case hQ =>
      intro a' w' A' c' hfr hev how hex
      obtain ⟨v0, vA, vN, vB, vD, rfl⟩ := hfr.form hev
      rw [← vI_append, ← vI_append, ← HV.out] at how
      obtain ⟨g', rfl, _, _⟩ := own_at how (by omega)
      have HOW := Lib.hid (own_base how (Nat.le_trans hb0 hb.size))
      clear how hev hfr
      refine NoPanic.normal ?_
      simp only [sq1, sq2, sq3]
      go_wp2
      go_ret
      exact ⟨_, _, _, rfl, HOW.out, bel_trans hb hex⟩
  ·obtain rfl : k = 0 := by omega
   have HC := Lib.hid hcut
   have HN : Hid (cutTo l v m = 0) := hcut
   have HV := Lib.hid (HIN.out 0 HN.out hk (fun h => absurd h.1 (by omega)))
   have e0 : ((0 : Nat) : Int) = 0 := rfl
   clear hcut
   go_wp2_with fail
   obtain ⟨i0, hi, hz0, hz1, hz2⟩ := info_parts infoI
   have hs1 : ∀ w', (Instr.slice 24 (.slice (some ⟨g, 0, none⟩) m c) none (some (.int .i64 (0))) none).run Tryz.prog w' = .ok (.slice (some ⟨g, 0, none⟩) (0) c) w' := fun w' => run_upto w' g m c (0) (by omega)
   have hs2 : ∀ w', (Instr.slice 24 (.slice (some ⟨g, 0, none⟩) m c) (some (.int .i64 (0))) none none).run Tryz.prog w' = .ok (.slice (some ⟨g, offK c (0), none⟩) (m - (0)) (c - (0))) w' := fun w' => run_from w' g m c (0) (by omega)
   have r2 : Rd wr (some ⟨g, offK c (0), none⟩) (vI (l.drop (0))) := Rd.from_ hrw HL.out hmc.1
   have r1 : Rd wr (some ⟨g, 0, none⟩) (vI (l.take (0))) := by rw [vI_take]; exact Rd.take hrw _
   have L1 : Hid ((l.take (0)).length = 0) := by show (l.take (0)).length = 0; rw [List.length_take, HL.out]; omega
   have L2 : Hid ((l.drop (0)).length = m - (0)) := by show (l.drop (0)).length = m - (0); rw [List.length_drop, HL.out]
   have R1 := Lib.hid r1
   have R2 := Lib.hid r2
   have HI := Lib.hid hi
   have HZ0 := Lib.hid hz0
   have HZ1 := Lib.hid hz1
   have HZ2 := Lib.hid hz2
   clear r1 r2 hi hz0 hz1 hz2
   refine wp_region_rg 13 rfl (by kernel_rfl) ?_
   (refine rgT (i := 1) (v := ?_) rfl rfl (by kernel_rfl) (by kernel_rfl) (by kernel_rfl) (by rfl) (fun w' hcw => ?_) ?_; rotate_left; ((try dsimp only at hcw); have hbc := hcw.cells; go_simp; first | done | with_reducible rfl); simp only [sq1, sq2, sq3])
   (refine rgT (i := 2) (v := ?_) rfl rfl (by kernel_rfl) (by kernel_rfl) (by kernel_rfl) (by rfl) (fun w' hcw => ?_) ?_; rotate_left; ((try dsimp only at hcw); have hbc := hcw.cells; go_simp; first | done | with_reducible rfl); simp only [sq1, sq2, sq3])
   (refine rgT (i := 3) (v := ?_) rfl rfl (by kernel_rfl) (by kernel_rfl) (by kernel_rfl) (by rfl) (fun w' hcw => ?_) ?_; rotate_left; ((try dsimp only at hcw); have hbc := hcw.cells; go_simp; first | done | with_reducible rfl); simp only [sq1, sq2, sq3])
   (refine rgT (i := 5) (v := ?_) rfl rfl (by kernel_rfl) (by kernel_rfl) (by kernel_rfl) (by rfl) (fun w' hcw => ?_) ?_; rotate_left; ((try dsimp only at hcw); have hbc := hcw.cells; go_simp; first | done | with_reducible rfl); simp only [sq1, sq2, sq3])
   (refine rgT (i := 8) (v := ?_) rfl rfl (by kernel_rfl) (by kernel_rfl) (by kernel_rfl) (by rfl) (fun w' hcw => ?_) ?_; rotate_left; ((try dsimp only at hcw); have hbc := hcw.cells; go_simp; first | done | with_reducible rfl); simp only [sq1, sq2, sq3])
   (refine rgT (i := 9) (v := ?_) rfl rfl (by kernel_rfl) (by kernel_rfl) (by kernel_rfl) (by rfl) (fun w' hcw => ?_) ?_; rotate_left; ((try dsimp only at hcw); have hbc := hcw.cells; go_simp; first | done | with_reducible rfl); simp only [sq1, sq2, sq3])
   (refine rgT (i := 10) (v := ?_) rfl rfl (by kernel_rfl) (by kernel_rfl) (by kernel_rfl) (by rfl) (fun w' hcw => ?_) ?_; rotate_left; ((try dsimp only at hcw); have hbc := hcw.cells; go_simp; first | done | with_reducible rfl); simp only [sq1, sq2, sq3])
   refine ins_tail (T := 24) (e := 3) (i := i0) (z := .int .i64 0) (size := 1) (bytes := 8) (i0 := 0) (iA := 4) (iN := 6) (iB := 7) (iD := 11) (iE := 12) (s0 := 33) (sA := 37) (sN := 39) (sB := 40) (sD := 44) (dE := 4) (t1 := 36) (t2 := 43) (xn := .tmp 38) (vn := .int .i64 v) (news := vI [v]) (vs1 := vI (l.take (0))) (vs2 := vI (l.drop (0))) (A1 := some ⟨g, 0, none⟩) (m1 := 0) (c1 := c) (A2 := some ⟨g, offK c (0), none⟩) (m2 := m - (0)) (c2 := c - (0)) _ ?ht ?hi ?hz ?h1 ?h2 rfl (by omega) ⟨⟨_, rfl, rfl, rfl, fun a w => ?p0⟩, ⟨_, rfl, rfl, rfl, rfl⟩, ⟨_, rfl, rfl, rfl, fun a w h => ?pN⟩, ⟨_, rfl, rfl, rfl, rfl⟩, ⟨_, rfl, rfl, rfl, rfl⟩, ⟨_, rfl, rfl, rfl, rfl⟩⟩ ⟨by simp, by decide, by decide, by decide⟩ (fun a h => (h.eval (by decide)).trans rfl) (by kernel_rfl) (by kernel_rfl) (by kernel_rfl) (by kernel_rfl) (by kernel_rfl) (by decide) (by decide) (by kernel_rfl) (by kernel_rfl) (by kernel_rfl) (by kernel_rfl) rfl ?q1 ?l1 ?o1 rfl ?q2 ?l2 ?o2 ?ln ?on ?hm ?hb ?hQ
   case ht => exact Tryz.underlying24
   case hi => exact HI.out
   case hz => exact HZ0.out
   case h1 => exact HZ1.out
   case h2 => exact HZ2.out
   case p0 => simp [go_sem, execOp]
   case pN => (generalize Act.eval a = ρ at h ⊢; simp [go_sem, execOp, h, vI])
   case q1 => exact R1.out
   case l1 => rw [vI_length, L1.out] <;> omega
   case o1 => exact vI_one _
   case q2 => exact R2.out
   case l2 => rw [vI_length, L2.out] <;> omega
   case o2 => exact vI_one _
   case ln => rfl
   case on => exact vI_one _
   case hm => omega
   case hb => omega
   case hQ =>
    intro a' w' A' c' hfr hev how hex
    obtain ⟨v0, vA, vN, vB, vD, rfl⟩ := hfr.form hev
    rw [← vI_append, ← vI_append, ← HV.out] at how
    obtain ⟨g', rfl, _, _⟩ := own_at how (by omega)
    have HOW := Lib.hid (own_base how (Nat.le_trans hb0 hb.size))
    clear how hev hfr
    refine NoPanic.normal ?_
    simp only [sq1, sq2, sq3]
    go_wp2
    go_ret
    exact ⟨_, _, _, rfl, HOW.out, bel_trans hb hex⟩
end

section
abbrev Inc (l : List Int) : Prop := l.Pairwise (· < ·)
theorem inc_eq : ∀ (a b : List Int), Inc a → Inc b → (∀ x, x ∈ a ↔ x ∈ b) → a = b
 | [], [], _, _, _ => rfl
 | [], y :: t, _, _, h => absurd ((h y).2 (by simp)) (by simp)
 | x :: s, [], _, _, h => absurd ((h x).1 (by simp)) (by simp)
 | x :: s, y :: t, ha, hb, h => by
  obtain ⟨a1, a2⟩ := List.pairwise_cons.1 ha
  obtain ⟨b1, b2⟩ := List.pairwise_cons.1 hb
  have hxy : x = y := by
   rcases Int.lt_trichotomy x y with h1 | h1 | h1
   ·rcases List.mem_cons.1 ((h x).1 (by simp)) with h2 | h2
    ·exact h2
    ·have := b1 x h2; omega
   ·exact h1
   ·rcases List.mem_cons.1 ((h y).2 (by simp)) with h2 | h2
    ·exact h2.symm
    ·have := a1 y h2; omega
  subst hxy
  congr 1
  refine inc_eq s t a2 b2 fun z => ⟨fun hz => ?_, fun hz => ?_⟩
  ·rcases List.mem_cons.1 ((h z).1 (by simp [hz])) with h2 | h2
   ·have := a1 z hz; omega
   ·exact h2
  ·rcases List.mem_cons.1 ((h z).2 (by simp [hz])) with h2 | h2
   ·have := b1 z hz; omega
   ·exact h2
theorem cutTo_above (l : List Int) (n : Int) : ∀ k, k ≤ l.length → ∀ i, cutTo l n k ≤ i → i < k → n < l.getD i 0
 | 0, _, i, _, h => absurd h (by omega)
 | k + 1, hk, i, hc, hi => by
  unfold cutTo at hc
  split at hc
  ·next h =>
   rcases Nat.lt_or_ge i k with h1 | h1
   ·exact cutTo_above l n k (by omega) i hc h1
   ·obtain rfl : i = k := by omega
    exact h
  ·omega
theorem cutTo_at (l : List Int) (n : Int) : ∀ k, 0 < cutTo l n k → l.getD (cutTo l n k - 1) 0 ≤ n
 | 0, h => absurd h (by simp [cutTo])
 | k + 1, h => by
  unfold cutTo at h ⊢
  split
  ·next h1 => rw [if_pos h1] at h; exact cutTo_at l n k h
  ·next h1 => simpa using h1
theorem inc_get {l : List Int} (h : Inc l) {i j : Nat} (hij : i < j) (hj : j < l.length) : l.getD i 0 < l.getD j 0 := by
 rw [Inc, List.pairwise_iff_getElem] at h
 have := h i j (by omega) hj hij
 simpa [List.getD_eq_getElem?_getD, hj, show i < l.length by omega] using this
theorem putI_inc {l : List Int} (h : Inc l) (n : Int) : Inc (putI l n) ∧ ∀ x, x ∈ putI l n ↔ x ∈ l ∨ x = n := by
 unfold putI
 have hk := cutTo_le l n l.length
 have ha := cutTo_above l n l.length (Nat.le_refl _)
 have hat := cutTo_at l n l.length
 generalize cutTo l n l.length = k at hk ha hat
 split
 ·next hc =>
  refine ⟨h, fun x => ⟨.inl, fun hx => ?_⟩⟩
  rcases hx with hx | rfl
  ·exact hx
  ·rw [← hc.2, List.getD_eq_getElem?_getD, List.getElem?_eq_getElem (by omega)]; exact List.getElem_mem _
 ·next hc =>
  have hlt : 0 < k → l.getD (k - 1) 0 < n := fun h0 => by
   have := hat h0
   have hne : l.getD (k - 1) 0 ≠ n := fun e => hc ⟨h0, e⟩
   omega
  have hfront : ∀ x ∈ l.take k, x < n := by
   intro x hx
   obtain ⟨i, hi, rfl⟩ := List.mem_iff_getElem.1 hx
   rw [List.length_take] at hi
   rw [List.getElem_take]
   have h1 := hlt (by omega)
   rcases Nat.lt_or_ge i (k - 1) with h2 | h2
   ·have := inc_get h h2 (by omega)
    rw [List.getD_eq_getElem?_getD, List.getElem?_eq_getElem (by omega)] at this
    simp only [Option.getD_some] at this
    omega
   ·obtain rfl : i = k - 1 := by omega
    rw [List.getD_eq_getElem?_getD, List.getElem?_eq_getElem (by omega)] at h1
    exact h1
  have hback : ∀ x ∈ l.drop k, n < x := by
   intro x hx
   obtain ⟨i, hi, rfl⟩ := List.mem_iff_getElem.1 hx
   rw [List.length_drop] at hi
   rw [List.getElem_drop]
   have := ha (k + i) (by omega) (by omega)
   rwa [List.getD_eq_getElem?_getD, List.getElem?_eq_getElem (by omega)] at this
  refine ⟨?_, fun x => ?_⟩
  ·rw [Inc, List.append_assoc, List.pairwise_append]
   refine ⟨List.Pairwise.sublist (List.take_sublist _ _) h, ?_, fun x hx y hy => ?_⟩
   ·rw [List.singleton_append, List.pairwise_cons]
    exact ⟨hback, List.Pairwise.sublist (List.drop_sublist _ _) h⟩
   ·have := hfront x hx
    rcases List.mem_append.1 hy with hy | hy
    ·simp only [List.mem_singleton] at hy; omega
    ·have := hback y hy; omega
  ·simp only [List.mem_append, List.mem_singleton]
   constructor
   ·rintro ((h1 | h1) | h1)
    ·exact .inl (List.mem_of_mem_take h1)
    ·exact .inr h1
    ·exact .inl (List.mem_of_mem_drop h1)
   ·rintro (h1 | h1)
    ·rw [← List.take_append_drop k l] at h1
     rcases List.mem_append.1 h1 with h2 | h2
     ·exact .inl (.inl h2)
     ·exact .inr h2
    ·exact .inl (.inr h1)
def putAll (l : List Int) : List Int := l.foldl putI []
theorem foldl_inc : ∀ (l acc : List Int), Inc acc → Inc (l.foldl putI acc) ∧ ∀ x, x ∈ l.foldl putI acc ↔ x ∈ acc ∨ x ∈ l
 | [], acc, h => ⟨h, fun x => by simp⟩
 | a :: t, acc, h => by
  obtain ⟨h1, h2⟩ := putI_inc h a
  obtain ⟨h3, h4⟩ := foldl_inc t (putI acc a) h1
  refine ⟨h3, fun x => ?_⟩
  rw [List.foldl_cons, h4, h2, List.mem_cons]
  constructor
  ·rintro ((h | h) | h)
   ·exact .inl h
   ·exact .inr (.inl h)
   ·exact .inr (.inr h)
  ·rintro (h | h | h)
   ·exact .inl (.inl h)
   ·exact .inl (.inr h)
   ·exact .inr h
def srt (l : List Int) : List Int := l.mergeSort fun x y => decide (x ≤ y)
def keepAt (s : List Int) (i : Nat) : Bool := i == 0 || s.getD (i - 1) 0 != s.getD i 0
def dedTo (s : List Int) : Nat → List Int
 | 0 => []
 | k + 1 => dedTo s k ++ (if keepAt s k then [s.getD k 0] else [])
def ord (l : List Int) : List Int := dedTo (srt l) (srt l).length
theorem srt_len (l : List Int) : (srt l).length = l.length := List.length_mergeSort _
theorem srt_mem (l : List Int) (x : Int) : x ∈ srt l ↔ x ∈ l := List.mem_mergeSort
theorem srt_le (l : List Int) : (srt l).Pairwise (· ≤ ·) := by
 have h := List.pairwise_mergeSort (le := fun x y : Int => decide (x ≤ y)) (fun a b c h1 h2 => by simp at *; omega) (fun a b => by simp; omega) l
 exact h.imp (fun h => by simpa using h)
theorem dedTo_len (s : List Int) (k : Nat) : (dedTo s k).length ≤ k := by
 induction k with
 | zero => simp [dedTo]
 | succ k ih => unfold dedTo; rw [List.length_append]; split <;> simp <;> omega
theorem dedTo_all {s : List Int} (hs : s.Pairwise (· ≤ ·)) : ∀ k, k ≤ s.length → Inc (dedTo s k) ∧ (∀ x, x ∈ dedTo s k ↔ x ∈ s.take k) ∧ ∀ x ∈ dedTo s k, 0 < k ∧ x ≤ s.getD (k - 1) 0
 | 0, _ => ⟨List.Pairwise.nil, fun x => by simp [dedTo], fun x hx => by simp [dedTo] at hx⟩
 | k + 1, hk => by
  obtain ⟨h1, h2, h3⟩ := dedTo_all hs k (by omega)
  have hkl : k < s.length := by omega
  have hg : s.getD k 0 = s[k] := by rw [List.getD_eq_getElem?_getD, List.getElem?_eq_getElem hkl]; rfl
  have hmono : 0 < k → s.getD (k - 1) 0 ≤ s.getD k 0 := fun h0 => by
   rw [List.pairwise_iff_getElem] at hs
   have := hs (k - 1) k (by omega) hkl (by omega)
   rw [hg, List.getD_eq_getElem?_getD, List.getElem?_eq_getElem (by omega)]
   exact this
  unfold dedTo
  rw [List.take_succ_eq_append_getElem hkl]
  cases hka : keepAt s k with
  | true =>
   rw [if_pos rfl, hg]
   refine ⟨?_, fun x => ?_, fun x hx => ⟨by omega, ?_⟩⟩
   ·rw [Inc, List.pairwise_append]
    refine ⟨h1, by simp, fun x hx y hy => ?_⟩
    simp only [List.mem_singleton] at hy
    subst hy
    obtain ⟨h0, hle⟩ := h3 x hx
    have := hmono h0
    simp only [keepAt, Bool.or_eq_true, beq_iff_eq, bne_iff_ne, ne_eq] at hka
    rcases hka with h | h
    ·omega
    ·rw [hg] at this h; omega
   ·simp only [List.mem_append, h2 x]
   ·simp only [Nat.add_sub_cancel, hg]
    rcases List.mem_append.1 hx with hx | hx
    ·obtain ⟨h0, hle⟩ := h3 x hx
     have := hmono h0
     rw [hg] at this; omega
    ·simp only [List.mem_singleton] at hx; omega
  | false =>
   simp only [Bool.false_eq_true, if_false, List.append_nil]
   simp only [keepAt, Bool.or_eq_false_iff, beq_eq_false_iff_ne, bne_eq_false_iff_eq, ne_eq] at hka
   refine ⟨h1, fun x => ?_, fun x hx => ⟨by omega, ?_⟩⟩
   ·rw [h2 x, List.mem_append, List.mem_singleton]
    refine ⟨.inl, fun h => ?_⟩
    rcases h with h | h
    ·exact h
    ·rw [h, ← hg, ← hka.2, List.getD_eq_getElem?_getD, List.getElem?_eq_getElem (by omega)]
     simp only [Option.getD_some]
     rw [List.mem_iff_getElem]
     exact ⟨k - 1, by rw [List.length_take]; omega, by rw [List.getElem_take]⟩
   ·obtain ⟨h0, hle⟩ := h3 x hx
    have := hmono h0
    simp only [Nat.add_sub_cancel]
    omega
theorem ord_eq (l : List Int) : ord l = putAll l := by
 obtain ⟨h1, h2, _⟩ := dedTo_all (srt_le l) (srt l).length (Nat.le_refl _)
 obtain ⟨h3, h4⟩ := foldl_inc l [] List.Pairwise.nil
 refine inc_eq _ _ h1 h3 fun x => ?_
 unfold putAll
 rw [h4]
 rw [show ord l = dedTo (srt l) (srt l).length from rfl, h2, List.take_length, srt_mem]
 simp
theorem ord_len (l : List Int) : (ord l).length ≤ l.length := Nat.le_trans (dedTo_len (srt l) _) (Nat.le_of_eq (srt_len l))
end

section
attribute [local go_sem ↓] Go.wp_at_zero Go.wp_at_succ
def vR (W : Int) (A : Option Addr) (n c : Nat) : Value := .agg #[.int .i64 W, .slice A n c]
def sideB (x : Int) : Bool := decide (1 ≤ x) && decide (x ≤ 6)
def okRow (W x : Int) : Bool := decide (0 ≤ x) && decide (x < 2 ^ W.toNat)
theorem isReg_eq (W : Int) (rows : List Int) : isReg W rows = ((sideB W && sideB (rows.length : Int)) && rows.all (okRow W)) := rfl
theorem all_dropI {P : Int → Bool} {F : List Int} {k : Nat} (h : k < F.length) : (F.drop k).all P = (P F[k] && (F.drop (k + 1)).all P) := by
 rw [List.drop_eq_getElem_cons h]
 rfl
theorem isSide_i (x : Int) (w : World) : Calls Tryz.prog 125 #[.int .i64 x] w (Ret w (.bool (sideB x))) := by
 go_enter Tryz.func125, Tryz.ntmps125
 go_wp2_with fail
 refine (between_b _ _ _ _ _ (rfl : sideB x = _)).mono ?_
 rintro e w1 ⟨rfl, hb⟩
 go_wp2_with fail
 go_ret
 exact ⟨rfl, hb⟩
theorem IsRegion_i (W : Int) (A : Option Addr) (n c : Nat) (rows : List Int) (w : World) (hr : Rd w A (vI rows)) (hl : rows.length = n) :
  Calls Tryz.prog 69 #[.agg #[.int .i64 W, .slice A n c]] w (Ret w (.bool (isReg W rows))) := by
 have HL := Lib.hid hl
 have hE := isReg_eq W rows
 rw [hl] at hE
 cases h1 : sideB W with
 | false =>
  rw [h1] at hE
  have HV : Hid (isReg W rows = false) := hE
  have H1 := Lib.hid h1
  clear hE h1 hl
  go_enter Tryz.func69, Tryz.ntmps69
  go_wp2_with fail
  refine (isSide_i _ _).mono ?_
  rw [H1.out]
  rintro e w1 ⟨rfl, hb1⟩
  go_wp2_with fail
  go_ret
  exact ⟨by rw [HV.out]; rfl, (by (repeat (first | with_reducible exact Below.refl _ _ | with_reducible assumption | with_reducible apply bel_alloc | with_reducible apply bel_drew | with_reducible apply bel_drewN | ((with_reducible refine bel_set ?_ ?_); rotate_left; (simp <;> omega)) | (with_reducible refine bel_trans ?_ (by with_reducible assumption)))))⟩
 | true =>
  cases h2 : sideB (n : Int) with
  | false =>
   rw [h1, h2] at hE
   have HV : Hid (isReg W rows = false) := hE
   have H1 := Lib.hid h1
   have H2 := Lib.hid h2
   clear hE h1 h2 hl
   go_enter Tryz.func69, Tryz.ntmps69
   go_wp2_with fail
   refine (isSide_i _ _).mono ?_
   rw [H1.out]
   rintro e w1 ⟨rfl, hb1⟩
   have c1 : w1.cell? ⟨w.heap.size, 1, none⟩ = some (.slice A n c) := by simpa using ((Blk.new w 26 #[.int .i64 W, .slice A n c]).below hb1).cell 1
   go_wp2_with fail
   refine (isSide_i _ _).mono ?_
   rw [H2.out]
   rintro e w2 ⟨rfl, hb2⟩
   go_wp2_with fail
   go_ret
   exact ⟨by rw [HV.out]; rfl, (by (repeat (first | with_reducible exact Below.refl _ _ | with_reducible assumption | with_reducible apply bel_alloc | with_reducible apply bel_drew | with_reducible apply bel_drewN | ((with_reducible refine bel_set ?_ ?_); rotate_left; (simp <;> omega)) | (with_reducible refine bel_trans ?_ (by with_reducible assumption)))))⟩
  | true =>
   rw [h1, h2] at hE
   have HV : Hid (isReg W rows = (rows.drop 0).all (okRow W)) := hE
   have H1 := Lib.hid h1
   have H2 := Lib.hid h2
   have hW : 1 ≤ W ∧ W ≤ 6 := by simpa [sideB] using h1
   have hN : 1 ≤ n ∧ n ≤ 6 := by have : 1 ≤ (n : Int) ∧ (n : Int) ≤ 6 := by simpa [sideB] using h2
                                 omega
   obtain ⟨hW1, hW2⟩ := hW
   obtain ⟨hN1, hN2⟩ := hN
   clear hE h1 h2 hl
   go_enter Tryz.func69, Tryz.ntmps69
   go_wp2_with fail
   refine (isSide_i _ _).mono ?_
   rw [H1.out]
   rintro e w1 ⟨rfl, hb1⟩
   have c1 : w1.cell? ⟨w.heap.size, 1, none⟩ = some (.slice A n c) := by simpa using ((Blk.new w 26 #[.int .i64 W, .slice A n c]).below hb1).cell 1
   go_wp2_with fail
   refine (isSide_i _ _).mono ?_
   rw [H2.out]
   rintro e w2 ⟨rfl, hb2⟩
   have hB2 : Blk w2 w.heap.size 26 #[.int .i64 W, .slice A n c] := ((Blk.new w 26 #[.int .i64 W, .slice A n c]).below hb1).below hb2
   have HB2 := Lib.hid hB2
   have hr2 : Rd w2 A (vI rows) := ((hr.alloc _).below hb1).below hb2
   have HR2 := Lib.hid hr2
   have c2 : w2.cell? ⟨w.heap.size, 1, none⟩ = some (.slice A n c) := by simpa using hB2.cell 1
   clear hB2 hr2 c1
   go_wp2_with fail
   go_loopw [19] (fun i wr => ∃ k : Nat, k ≤ n ∧ i = .int .i64 k ∧ (rows.drop 0).all (okRow W) = (rows.drop k).all (okRow W) ∧ Below w2.heap.size w2 wr) (fun i _ => n - (intOf i).toNat)
   case atStart => exact ⟨0, Nat.zero_le _, rfl, rfl, Below.refl _ _⟩
   case round =>
    obtain ⟨k, hk, rfl, hall, hb⟩ := hrel
    clear c2
    by_cases hlt : k < n
    ·have hkl : k < rows.length := by rw [HL.out]; exact hlt
     have hk0 : (0 : Int) ≤ (k : Int) := by omega
     have hk1 : (k : Int) < (n : Int) := by omega
     obtain ⟨g, off, rfl, hg, d1⟩ := RdI.at_ (HR2.out.below hb) hkl
     have d2 : wr.cell? ⟨w.heap.size, 0, none⟩ = some (.int .i64 W) := by simpa using (HB2.out.below hb).cell 0
     rw [all_dropI hkl] at hall
     obtain ⟨x, hx⟩ : ∃ x, rows[k] = x := ⟨_, rfl⟩
     rw [hx] at hall d1
     obtain ⟨p, hp⟩ : ∃ p : Int, (2 : Int) ^ W.toNat = p := ⟨_, rfl⟩
     have hp0 : 2 ≤ p ∧ p ≤ 64 := by
      rcases (by omega : W = 1 ∨ W = 2 ∨ W = 3 ∨ W = 4 ∨ W = 5 ∨ W = 6) with rfl | rfl | rfl | rfl | rfl | rfl <;> (simp at hp; omega)
     obtain ⟨hp2, hp64⟩ := hp0
     have hpw : IntKind.i64.wrap p = p := Go.IntWalk.i64_in p (by omega)
     have ho : okRow W x = (decide (0 ≤ x) && decide (x < p)) := by unfold okRow; rw [hp]
     rw [ho] at hall
     clear hx ho
     by_cases hx0 : x < 0
     ·rw [show decide (0 ≤ x) = false from by simp; omega, Bool.false_and, Bool.false_and] at hall
      have HF : Hid (isReg W rows = false) := by rw [HV.out, hall]; rfl
      clear hall hp
      go_wp2
      go_ret
      exact ⟨by rw [HF.out]; rfl, (by (repeat (first | with_reducible exact Below.refl _ _ | with_reducible assumption | with_reducible apply bel_alloc | with_reducible apply bel_drew | with_reducible apply bel_drewN | ((with_reducible refine bel_set ?_ ?_); rotate_left; (simp <;> omega)) | (with_reducible refine bel_trans ?_ (by with_reducible assumption)))))⟩
     ·by_cases hxp : x < p
      ·rw [show decide (0 ≤ x) = true from by simp; omega, show decide (x < p) = true from by simpa using hxp, Bool.true_and, Bool.true_and] at hall
       have HA := Lib.hid hall
       have hge : ¬ (p ≤ x) := by omega
       clear hall
       go_wp2
       exact ⟨⟨k + 1, by omega, by go_num, HA.out, (by (repeat (first | with_reducible exact Below.refl _ _ | with_reducible assumption | with_reducible apply bel_alloc | with_reducible apply bel_drew | with_reducible apply bel_drewN | ((with_reducible refine bel_set ?_ ?_); rotate_left; (simp <;> omega)) | (with_reducible refine bel_trans ?_ (by with_reducible assumption)))))⟩, by simp [intOf]; omega⟩
      ·rw [show decide (x < p) = false from by simpa using hxp, Bool.and_false, Bool.false_and] at hall
       have HF : Hid (isReg W rows = false) := by rw [HV.out, hall]; rfl
       have hge : p ≤ x := by omega
       clear hall
       go_wp2
       go_ret
       exact ⟨by rw [HF.out]; rfl, (by (repeat (first | with_reducible exact Below.refl _ _ | with_reducible assumption | with_reducible apply bel_alloc | with_reducible apply bel_drew | with_reducible apply bel_drewN | ((with_reducible refine bel_set ?_ ?_); rotate_left; (simp <;> omega)) | (with_reducible refine bel_trans ?_ (by with_reducible assumption)))))⟩
    ·have hkn : k = n := by omega
     subst hkn
     rw [List.drop_of_length_le (l := rows) (i := k) (by rw [HL.out]; omega)] at hall
     have HF : Hid (isReg W rows = true) := by rw [HV.out, hall]; rfl
     have hk1 : ¬ (k : Int) < (k : Int) := by omega
     clear hall
     go_wp2
     go_ret
     exact ⟨by rw [HF.out]; rfl, (by (repeat (first | with_reducible exact Below.refl _ _ | with_reducible assumption | with_reducible apply bel_alloc | with_reducible apply bel_drew | with_reducible apply bel_drewN | ((with_reducible refine bel_set ?_ ?_); rotate_left; (simp <;> omega)) | (with_reducible refine bel_trans ?_ (by with_reducible assumption)))))⟩
theorem IsRegion_s (W : Int) (A : Option Addr) (n c : Nat) (rows : List Int) (w : World) (hr : Rd w A (vI rows)) (hl : rows.length = n) :
  Calls Tryz.prog 71 #[.agg #[.int .i64 W, .slice A n c]] w (Ret w (.bool (isReg W rows))) := by
 have HL := Lib.hid hl
 have hE := isReg_eq W rows
 rw [hl] at hE
 cases h1 : sideB W with
 | false =>
  rw [h1] at hE
  have HV : Hid (isReg W rows = false) := hE
  have H1 := Lib.hid h1
  clear hE h1 hl
  go_enter Tryz.func71, Tryz.ntmps71
  go_wp2_with fail
  refine (l1In_b _ _ _ _ _ (rfl : sideB _ = _)).mono ?_
  rw [H1.out]
  rintro e w1 ⟨rfl, hb1⟩
  go_wp2_with fail
  go_ret
  exact ⟨by rw [HV.out]; rfl, (by (repeat (first | with_reducible exact Below.refl _ _ | with_reducible assumption | with_reducible apply bel_alloc | with_reducible apply bel_drew | with_reducible apply bel_drewN | ((with_reducible refine bel_set ?_ ?_); rotate_left; (simp <;> omega)) | (with_reducible refine bel_trans ?_ (by with_reducible assumption)))))⟩
 | true =>
  cases h2 : sideB (n : Int) with
  | false =>
   rw [h1, h2] at hE
   have HV : Hid (isReg W rows = false) := hE
   have H1 := Lib.hid h1
   have H2 := Lib.hid h2
   clear hE h1 h2 hl
   go_enter Tryz.func71, Tryz.ntmps71
   go_wp2_with fail
   refine (l1In_b _ _ _ _ _ (rfl : sideB _ = _)).mono ?_
   rw [H1.out]
   rintro e w1 ⟨rfl, hb1⟩
   have c1 : w1.cell? ⟨w.heap.size, 1, none⟩ = some (.slice A n c) := by simpa using ((Blk.new w 26 #[.int .i64 W, .slice A n c]).below hb1).cell 1
   go_wp2_with fail
   refine (l1In_b _ _ _ _ _ (rfl : sideB _ = _)).mono ?_
   rw [H2.out]
   rintro e w2 ⟨rfl, hb2⟩
   go_wp2_with fail
   go_ret
   exact ⟨by rw [HV.out]; rfl, (by (repeat (first | with_reducible exact Below.refl _ _ | with_reducible assumption | with_reducible apply bel_alloc | with_reducible apply bel_drew | with_reducible apply bel_drewN | ((with_reducible refine bel_set ?_ ?_); rotate_left; (simp <;> omega)) | (with_reducible refine bel_trans ?_ (by with_reducible assumption)))))⟩
  | true =>
   rw [h1, h2] at hE
   have HV : Hid (isReg W rows = (rows.drop 0).all (okRow W)) := hE
   have H1 := Lib.hid h1
   have H2 := Lib.hid h2
   have hW : 1 ≤ W ∧ W ≤ 6 := by simpa [sideB] using h1
   have hN : 1 ≤ n ∧ n ≤ 6 := by have : 1 ≤ (n : Int) ∧ (n : Int) ≤ 6 := by simpa [sideB] using h2
                                 omega
   obtain ⟨hW1, hW2⟩ := hW
   obtain ⟨hN1, hN2⟩ := hN
   clear hE h1 h2 hl
   go_enter Tryz.func71, Tryz.ntmps71
   go_wp2_with fail
   refine (l1In_b _ _ _ _ _ (rfl : sideB _ = _)).mono ?_
   rw [H1.out]
   rintro e w1 ⟨rfl, hb1⟩
   have c1 : w1.cell? ⟨w.heap.size, 1, none⟩ = some (.slice A n c) := by simpa using ((Blk.new w 26 #[.int .i64 W, .slice A n c]).below hb1).cell 1
   go_wp2_with fail
   refine (l1In_b _ _ _ _ _ (rfl : sideB _ = _)).mono ?_
   rw [H2.out]
   rintro e w2 ⟨rfl, hb2⟩
   have hB2 : Blk w2 w.heap.size 26 #[.int .i64 W, .slice A n c] := ((Blk.new w 26 #[.int .i64 W, .slice A n c]).below hb1).below hb2
   have HB2 := Lib.hid hB2
   have hr2 : Rd w2 A (vI rows) := ((hr.alloc _).below hb1).below hb2
   have HR2 := Lib.hid hr2
   have c2 : w2.cell? ⟨w.heap.size, 1, none⟩ = some (.slice A n c) := by simpa using hB2.cell 1
   clear hB2 hr2 c1
   go_wp2_with fail
   go_loopw [3] (fun i wr => ∃ k : Nat, k ≤ n ∧ i = .int .i64 k ∧ (rows.drop 0).all (okRow W) = (rows.drop k).all (okRow W) ∧ Below w2.heap.size w2 wr) (fun i _ => n - (intOf i).toNat)
   case atStart => exact ⟨0, Nat.zero_le _, rfl, rfl, Below.refl _ _⟩
   case round =>
    obtain ⟨k, hk, rfl, hall, hb⟩ := hrel
    clear c2
    have d3 : wr.cell? ⟨w.heap.size, 1, none⟩ = some (.slice A n c) := by simpa using (HB2.out.below hb).cell 1
    have hgw := (HB2.out.below hb).lt
    by_cases hlt : k < n
    ·have hkl : k < rows.length := by rw [HL.out]; exact hlt
     have hk0 : (0 : Int) ≤ (k : Int) := by omega
     have hk1 : (k : Int) < (n : Int) := by omega
     obtain ⟨g, off, rfl, hg, d1⟩ := RdI.at_ (HR2.out.below hb) hkl
     have d2 : wr.cell? ⟨w.heap.size, 0, none⟩ = some (.int .i64 W) := by simpa using (HB2.out.below hb).cell 0
     rw [all_dropI hkl] at hall
     obtain ⟨x, hx⟩ : ∃ x, rows[k] = x := ⟨_, rfl⟩
     rw [hx] at hall d1
     obtain ⟨p, hp⟩ : ∃ p : Int, (2 : Int) ^ W.toNat = p := ⟨_, rfl⟩
     have hp0 : 2 ≤ p ∧ p ≤ 64 := by
      rcases (by omega : W = 1 ∨ W = 2 ∨ W = 3 ∨ W = 4 ∨ W = 5 ∨ W = 6) with rfl | rfl | rfl | rfl | rfl | rfl <;> (simp at hp; omega)
     obtain ⟨hp2, hp64⟩ := hp0
     have hpw : IntKind.i64.wrap p = p := Go.IntWalk.i64_in p (by omega)
     have ho : okRow W x = (decide (0 ≤ x) && decide (x < p)) := by unfold okRow; rw [hp]
     rw [ho] at hall
     clear hx ho
     by_cases hx0 : x < 0
     ·rw [show decide (0 ≤ x) = false from by simp; omega, Bool.false_and, Bool.false_and] at hall
      have HF : Hid (isReg W rows = false) := by rw [HV.out, hall]; rfl
      have hx0d : decide (x < 0) = true := by simpa using hx0
      clear hall hp hx0
      go_wp2_with fail
      (refine wp_region_below (by kernel_rfl) (by kernel_rfl) ?_; (repeat (first | go_big_quiet_skip | (refine quietV (v := ?_) (by rfl) rfl (fun w' hbw => ?_) ?_; rotate_left; ((try dsimp only at hbw); have hbc := (bcell hbw).1; have hbf := (bcell hbw).2; go_simp; first | done | with_reducible rfl | fail); simp only [sq1, sq2, sq3]))); refine wpQuiet_nil ?_; intro wq hbq)
      go_wp2_with fail
      go_ret
      exact ⟨by rw [HF.out]; rfl, (by (repeat (first | with_reducible exact Below.refl _ _ | with_reducible assumption | with_reducible apply bel_alloc | with_reducible apply bel_drew | with_reducible apply bel_drewN | ((with_reducible refine bel_set ?_ ?_); rotate_left; (simp <;> omega)) | (with_reducible refine bel_trans ?_ (by with_reducible assumption)))))⟩
     ·by_cases hxp : x < p
      ·rw [show decide (0 ≤ x) = true from by simp; omega, show decide (x < p) = true from by simpa using hxp, Bool.true_and, Bool.true_and] at hall
       have HA := Lib.hid hall
       have hge : decide (p ≤ x) = false := by simp; omega
       have hx0d : decide (x < 0) = false := by simpa using hx0
       clear hall
       go_wp2_with fail
       (refine wp_region_below (by kernel_rfl) (by kernel_rfl) ?_; (repeat (first | go_big_quiet_skip | (refine quietV (v := ?_) (by rfl) rfl (fun w' hbw => ?_) ?_; rotate_left; ((try dsimp only at hbw); have hbc := (bcell hbw).1; have hbf := (bcell hbw).2; go_simp; first | done | with_reducible rfl | fail); simp only [sq1, sq2, sq3]))); refine wpQuiet_nil ?_; intro wq hbq)
       go_wp2_with fail
       exact ⟨⟨k + 1, by omega, by go_num, HA.out, (by (repeat (first | with_reducible exact Below.refl _ _ | with_reducible assumption | with_reducible apply bel_alloc | with_reducible apply bel_drew | with_reducible apply bel_drewN | ((with_reducible refine bel_set ?_ ?_); rotate_left; (simp <;> omega)) | (with_reducible refine bel_trans ?_ (by with_reducible assumption)))))⟩, by simp [intOf]; omega⟩
      ·rw [show decide (x < p) = false from by simpa using hxp, Bool.and_false, Bool.false_and] at hall
       have HF : Hid (isReg W rows = false) := by rw [HV.out, hall]; rfl
       have hge : decide (p ≤ x) = true := by simp; omega
       have hx0d : decide (x < 0) = false := by simpa using hx0
       clear hall
       go_wp2_with fail
       (refine wp_region_below (by kernel_rfl) (by kernel_rfl) ?_; (repeat (first | go_big_quiet_skip | (refine quietV (v := ?_) (by rfl) rfl (fun w' hbw => ?_) ?_; rotate_left; ((try dsimp only at hbw); have hbc := (bcell hbw).1; have hbf := (bcell hbw).2; go_simp; first | done | with_reducible rfl | fail); simp only [sq1, sq2, sq3]))); refine wpQuiet_nil ?_; intro wq hbq)
       go_wp2_with fail
       go_ret
       exact ⟨by rw [HF.out]; rfl, (by (repeat (first | with_reducible exact Below.refl _ _ | with_reducible assumption | with_reducible apply bel_alloc | with_reducible apply bel_drew | with_reducible apply bel_drewN | ((with_reducible refine bel_set ?_ ?_); rotate_left; (simp <;> omega)) | (with_reducible refine bel_trans ?_ (by with_reducible assumption)))))⟩
    ·have hkn : k = n := by omega
     subst hkn
     rw [List.drop_of_length_le (l := rows) (i := k) (by rw [HL.out]; omega)] at hall
     have HF : Hid (isReg W rows = true) := by rw [HV.out, hall]; rfl
     have hk1 : ¬ (k : Int) < (k : Int) := by omega
     clear hall
     go_wp2
     go_ret
     exact ⟨by rw [HF.out]; rfl, (by (repeat (first | with_reducible exact Below.refl _ _ | with_reducible assumption | with_reducible apply bel_alloc | with_reducible apply bel_drew | with_reducible apply bel_drewN | ((with_reducible refine bel_set ?_ ?_); rotate_left; (simp <;> omega)) | (with_reducible refine bel_trans ?_ (by with_reducible assumption)))))⟩
end

section
attribute [local go_sem ↓] Go.wp_at_zero Go.wp_at_succ
def maskV (W : Int) (rows : List Int) : Nat := if isReg W rows then mkTo W.toNat rows rows.length else 0
theorem mask_step {m : Nat} {rows : List Int} (hm : m ≤ 6) (h6 : rows.length ≤ 6) (h : ∀ k (hk : k < rows.length), ∃ q : Nat, rows[k] = (q : Int) ∧ q < 2 ^ m) {k : Nat} (hk : k < rows.length) :
  ∃ q s t v : Nat, rows[k] = (q : Int) ∧ (k : Int) * (m : Int) = (s : Int) ∧ s ≤ 36 ∧ (q : Int) * 2 ^ s = (t : Int) ∧ t < 2 ^ 36 ∧ v = mkTo m rows (k + 1) ∧ v < 2 ^ 36 ∧ mkTo m rows k + t = v ∧ bits .or .i64 (mkTo m rows k : Nat) (t : Int) = (v : Int) := by
 obtain ⟨q, hq, hlt⟩ := h k hk
 have h1 := mkTo_lt h k (by omega)
 have h2 := mkTo_lt h (k + 1) (by omega)
 have h3 : (k + 1) * m ≤ 6 * 6 := Nat.mul_le_mul (by omega) hm
 have h4 : 2 ^ ((k + 1) * m) ≤ 2 ^ 36 := Nat.pow_le_pow_right (by decide) h3
 have e : mkTo m rows (k + 1) = mkTo m rows k + q * 2 ^ (k * m) := by
  show mkTo m rows k + (rows.getD k 0).toNat * 2 ^ (k * m) = _
  rw [List.getD_eq_getElem?_getD, List.getElem?_eq_getElem hk, Option.getD_some, hq]
  rfl
 have h5 : k * m ≤ 36 := by rw [Nat.succ_mul] at h3; omega
 refine ⟨q, k * m, q * 2 ^ (k * m), mkTo m rows (k + 1), hq, by simp, h5, by simp, by omega, rfl, by omega, e.symm, ?_⟩
 rw [i64_or _ _ (by omega) (by omega), or_high h1, e]
theorem wrapN {v : Nat} (h : v < 2 ^ 36) : IntKind.i64.wrap (v : Int) = (v : Int) := Go.IntWalk.i64_in _ (by omega)
theorem mask_i (W : Int) (A : Option Addr) (n c : Nat) (rows : List Int) (w : World) (hr : Rd w A (vI rows)) (hl : rows.length = n) (hv : isReg W rows = true) :
  Calls Tryz.prog 70 #[.agg #[.int .i64 W, .slice A n c]] w (Ret w (.int .i64 (maskV W rows : Nat))) := by
 obtain ⟨m, rfl, hm1, hm6, hn1, hn6, hrow⟩ := isReg_yes hv
 have HV : Hid (maskV (m : Int) rows = mkTo m rows rows.length) := by show maskV _ rows = _; unfold maskV; rw [if_pos hv]; rfl
 have HL := Lib.hid hl
 have HROW := Lib.hid hrow
 rw [hl] at hn6 hn1
 clear hv hl hrow
 go_enter Tryz.func70, Tryz.ntmps70
 go_wp2
 go_loopw [9, 3] (fun i t wr => ∃ k v : Nat, k ≤ n ∧ i = .int .i64 k ∧ t = .int .i64 v ∧ v = mkTo m rows k ∧ Below (w.alloc (.cells #[.int .i64 (m : Int), .slice A n c] 26)).heap.size (w.alloc (.cells #[.int .i64 (m : Int), .slice A n c] 26)) wr) (fun i _ _ => n - (intOf i).toNat)
 case atStart => exact ⟨0, 0, Nat.zero_le _, rfl, rfl, rfl, Below.refl _ _⟩
 case round =>
  obtain ⟨k, v, hk, rfl, rfl, hv, hb⟩ := hrel
  by_cases hlt : k < n
  ·have hkl : k < rows.length := by rw [HL.out]; exact hlt
   have hk0 : (0 : Int) ≤ (k : Int) := by omega
   have hk1 : (k : Int) < (n : Int) := by omega
   have hB := (Blk.new w 26 #[.int .i64 (m : Int), .slice A n c]).below hb
   have d0 : wr.cell? ⟨w.heap.size, 0, none⟩ = some (.int .i64 (m : Int)) := by simpa using hB.cell 0
   have hgw := hB.lt
   obtain ⟨g, off, rfl, hg, d1⟩ := RdI.at_ ((hr.alloc _).below hb) hkl
   obtain ⟨q, s, t, v', e1, e2, e3, e4, e5, e6, e7, e8, e9⟩ := mask_step hm6 (by rw [HL.out]; exact hn6) HROW.out hkl
   rw [e1] at d1
   rw [← hv] at e8 e9
   have HE := Lib.hid e6
   have s0 : (0 : Int) ≤ (s : Int) := by omega
   have s1 : (s : Int) ≤ 64 := by omega
   have w1 := wrapN e5
   clear e1 e6 hv hB
   go_wp2
   exact ⟨⟨k + 1, v', by omega, by go_num, rfl, HE.out, hb⟩, by simp [intOf]; omega⟩
  ·have hkn : k = n := by omega
   subst hkn
   rw [← HL.out] at hv
   have HE := Lib.hid hv
   have hk1 : ¬ (k : Int) < (k : Int) := by omega
   clear hv
   go_wp2
   go_ret
   exact ⟨by rw [HV.out, ← HE.out]; rfl, (by (repeat (first | with_reducible exact Below.refl _ _ | with_reducible assumption | with_reducible apply bel_alloc | with_reducible apply bel_drew | with_reducible apply bel_drewN | ((with_reducible refine bel_set ?_ ?_); rotate_left; (simp <;> omega)) | (with_reducible refine bel_trans ?_ (by with_reducible assumption)))))⟩
theorem MaskOf_s (W : Int) (A : Option Addr) (n c : Nat) (rows : List Int) (w : World) (hr : Rd w A (vI rows)) (hl : rows.length = n) :
  Calls Tryz.prog 73 #[.agg #[.int .i64 W, .slice A n c]] w (Ret w (.int .i64 (maskV W rows : Nat))) := by
 cases hv : isReg W rows with
 | false =>
  have HV : Hid (maskV W rows = 0) := by show maskV _ rows = _; unfold maskV; rw [hv]; rfl
  have HL := Lib.hid hl
  have HF := Lib.hid hv
  clear hv hl
  go_enter Tryz.func73, Tryz.ntmps73
  go_wp2_with fail
  go_loopw [4, 3] (fun i t wr => i = .int .i64 0 ∧ t = .int .i64 0 ∧ Below (w.alloc (.cells #[.int .i64 W, .slice A n c] 26)).heap.size (w.alloc (.cells #[.int .i64 W, .slice A n c] 26)) wr) (fun _ _ _ => 0)
  case atStart => exact ⟨rfl, rfl, Below.refl _ _⟩
  case round =>
   obtain ⟨rfl, rfl, hb⟩ := hrel
   have hB := (Blk.new w 26 #[.int .i64 W, .slice A n c]).below hb
   have d0 : wr.cell? ⟨w.heap.size, 0, none⟩ = some (.int .i64 W) := by simpa using hB.cell 0
   have d1 : wr.cell? ⟨w.heap.size, 1, none⟩ = some (.slice A n c) := by simpa using hB.cell 1
   have hrw := Lib.hid ((hr.alloc _).below hb)
   clear hB
   by_cases hn : n = 0
   ·have hn1 : ¬ (0 : Int) < (n : Int) := by omega
    go_wp2_with fail
    go_ret
    exact ⟨by rw [HV.out]; rfl, (by (repeat (first | with_reducible exact Below.refl _ _ | with_reducible assumption | with_reducible apply bel_alloc | with_reducible apply bel_drew | with_reducible apply bel_drewN | ((with_reducible refine bel_set ?_ ?_); rotate_left; (simp <;> omega)) | (with_reducible refine bel_trans ?_ (by with_reducible assumption)))))⟩
   ·have hn1 : (0 : Int) < (n : Int) := by omega
    go_wp2_with fail
    refine (IsRegion_s _ _ _ _ rows _ hrw.out HL.out).mono ?_
    rw [HF.out]
    rintro e w1 ⟨rfl, hb1⟩
    go_wp2_with fail
    go_ret
    exact ⟨by rw [HV.out]; rfl, (by (repeat (first | with_reducible exact Below.refl _ _ | with_reducible assumption | with_reducible apply bel_alloc | with_reducible apply bel_drew | with_reducible apply bel_drewN | ((with_reducible refine bel_set ?_ ?_); rotate_left; (simp <;> omega)) | (with_reducible refine bel_trans ?_ (by with_reducible assumption)))))⟩
 | true =>
  have HT := Lib.hid hv
  obtain ⟨m, rfl, hm1, hm6, hn1, hn6, hrow⟩ := isReg_yes hv
  have HV : Hid (maskV (m : Int) rows = mkTo m rows rows.length) := by show maskV _ rows = _; unfold maskV; rw [if_pos hv]; rfl
  have HL := Lib.hid hl
  have HROW := Lib.hid hrow
  rw [hl] at hn6 hn1
  clear hv hl hrow
  go_enter Tryz.func73, Tryz.ntmps73
  go_wp2
  go_loopw [4, 3] (fun i t wr => ∃ k v : Nat, k ≤ n ∧ i = .int .i64 k ∧ t = .int .i64 v ∧ v = mkTo m rows k ∧ Below (w.alloc (.cells #[.int .i64 (m : Int), .slice A n c] 26)).heap.size (w.alloc (.cells #[.int .i64 (m : Int), .slice A n c] 26)) wr) (fun i _ _ => n - (intOf i).toNat)
  case atStart => exact ⟨0, 0, Nat.zero_le _, rfl, rfl, rfl, Below.refl _ _⟩
  case round =>
   obtain ⟨k, v, hk, rfl, rfl, hv, hb⟩ := hrel
   have hB := (Blk.new w 26 #[.int .i64 (m : Int), .slice A n c]).below hb
   have d0 : wr.cell? ⟨w.heap.size, 0, none⟩ = some (.int .i64 (m : Int)) := by simpa using hB.cell 0
   have d1' : wr.cell? ⟨w.heap.size, 1, none⟩ = some (.slice A n c) := by simpa using hB.cell 1
   have hgw := hB.lt
   have hrw := (hr.alloc _).below hb
   clear hB
   by_cases hlt : k < n
   ·have hkl : k < rows.length := by rw [HL.out]; exact hlt
    have hk0 : (0 : Int) ≤ (k : Int) := by omega
    have hk1 : (k : Int) < (n : Int) := by omega
    have HRW := Lib.hid hrw
    obtain ⟨g, off, hA, hg, d1⟩ := RdI.at_ hrw hkl
    subst hA
    obtain ⟨q, s, t, v', e1, e2, e3, e4, e5, e6, e7, e8, e9⟩ := mask_step hm6 (by rw [HL.out]; exact hn6) HROW.out hkl
    rw [e1] at d1
    rw [← hv] at e8
    have HE := Lib.hid e6
    have s0 : (0 : Int) ≤ (s : Int) := by omega
    have s1 : (s : Int) ≤ 64 := by omega
    have w1 := wrapN e5
    have w2 := wrapN e7
    have w3 : IntKind.i64.wrap (s : Int) = (s : Int) := Go.IntWalk.i64_in _ (by omega)
    have e10 : (v : Int) + (t : Int) = (v' : Int) := by omega
    clear e1 e6 hv e9 e8 hrw
    go_wp2_with fail
    refine (IsRegion_s _ _ _ _ rows _ HRW.out HL.out).mono ?_
    rw [HT.out]
    rintro e w4 ⟨rfl, hb4⟩
    have y0 := keep_below hb4 d0
    have y1 := keep_below hb4 d1'
    have y2 := keep_below hb4 d1
    have hgw4 : w.heap.size < w4.heap.size := Nat.lt_of_lt_of_le hgw hb4.size
    have hg4 : g < w4.heap.size := Nat.lt_of_lt_of_le hg hb4.size
    go_wp2_with fail
    (refine wp_region_below (by kernel_rfl) (by kernel_rfl) ?_; (repeat (first | go_big_quiet_skip | (refine quietV (v := ?_) (by rfl) rfl (fun w' hbw => ?_) ?_; rotate_left; ((try dsimp only at hbw); have hbc := (bcell hbw).1; have hbf := (bcell hbw).2; go_simp; first | done | with_reducible rfl | fail); simp only [sq1, sq2, sq3]))); refine wpQuiet_nil ?_; intro wq hbq)
    go_wp2_with fail
    exact ⟨⟨k + 1, v', by omega, by go_num, rfl, HE.out, (by (repeat (first | with_reducible exact Below.refl _ _ | with_reducible assumption | with_reducible apply bel_alloc | with_reducible apply bel_drew | with_reducible apply bel_drewN | ((with_reducible refine bel_set ?_ ?_); rotate_left; (simp <;> omega)) | (with_reducible refine bel_trans ?_ (by with_reducible assumption)))))⟩, by simp [intOf]; omega⟩
   ·have hkn : k = n := by omega
    subst hkn
    rw [← HL.out] at hv
    have HE := Lib.hid hv
    have hk1 : ¬ (k : Int) < (k : Int) := by omega
    clear hv hrw
    go_wp2
    go_ret
    exact ⟨by rw [HV.out, ← HE.out]; rfl, (by (repeat (first | with_reducible exact Below.refl _ _ | with_reducible assumption | with_reducible apply bel_alloc | with_reducible apply bel_drew | with_reducible apply bel_drewN | ((with_reducible refine bel_set ?_ ?_); rotate_left; (simp <;> omega)) | (with_reducible refine bel_trans ?_ (by with_reducible assumption)))))⟩
end

section
structure Rows (w : World) (t : TypeId) (G : List Nat) (R : List (List Value)) : Prop where
 len : G.length = R.length
 nd : G.Nodup
 blk : ∀ i (h : i < G.length) (h' : i < R.length), Blk w (G[i]'h) t (R[i]'h').toArray
section
variable {w w' : World} {t : TypeId} {G : List Nat} {R : List (List Value)}
theorem Rows.nil (w : World) (t : TypeId) : Rows w t [] [] := ⟨rfl, List.nodup_nil, fun i h => by simp at h⟩
theorem Rows.below (h : Rows w t G R) (hb : Below w.heap.size w w') : Rows w' t G R := ⟨h.len, h.nd, fun i a b => (h.blk i a b).below hb⟩
theorem Rows.drew (h : Rows w t G R) : Rows w.drew t G R := ⟨h.len, h.nd, h.blk⟩
theorem Rows.alloc (h : Rows w t G R) (o : Obj) : Rows (w.alloc o) t G R := ⟨h.len, h.nd, fun i a b => (h.blk i a b).alloc o⟩
theorem Rows.grown {row : Option Nat} (h : Rows w t G R) (hg : w.grownBy w' row) (hn : ∀ g ∈ G, some g ≠ row) : Rows w' t G R :=
 ⟨h.len, h.nd, fun i a b => (h.blk i a b).grown hg (hn _ (List.getElem_mem a))⟩
theorem Rows.far (h : Rows w t G R) {p : Addr} (hp : p.block ∉ G) (u : Value) : Rows (w.setCell p u) t G R :=
 ⟨h.len, h.nd, fun i a b => (h.blk i a b).far (fun e => hp (e ▸ List.getElem_mem a)) u⟩
theorem Rows.lt (h : Rows w t G R) : ∀ g ∈ G, g < w.heap.size := by
 intro g hg
 obtain ⟨i, hi, rfl⟩ := List.mem_iff_getElem.1 hg
 exact (h.blk i hi (by rw [← h.len]; exact hi)).lt
theorem Rows.push (h : Rows w t G R) {g : Nat} {vs : List Value} (hb : Blk w g t vs.toArray) (hg : g ∉ G) : Rows w t (G ++ [g]) (R ++ [vs]) := by
 refine ⟨by simp [h.len], ?_, fun i a b => ?_⟩
 ·rw [List.nodup_append]
  refine ⟨h.nd, by simp, fun x hx y hy => ?_⟩
  simp only [List.mem_singleton] at hy
  subst hy
  rintro rfl
  exact hg hx
 ·by_cases hi : i < G.length
  ·simp only [List.getElem_append_left hi, List.getElem_append_left (h.len ▸ hi : i < R.length)]
   exact h.blk i hi _
  ·have e : i = G.length := by simp at a; omega
   subst e
   simp only [List.getElem_append_right (Nat.le_refl _), List.getElem_append_right (Nat.le_of_eq h.len.symm), Nat.sub_self]
   simpa [h.len] using hb
theorem Rows.set_ (h : Rows w t G R) {i : Nat} (hi : i < G.length) (hi' : i < R.length) (k : Nat) (u : Value) : Rows (w.setCell ⟨G[i]'hi, k, Option.none⟩ u) t G (R.set i ((R[i]'hi').set k u)) := by
 refine ⟨by simp [h.len], h.nd, fun j a b => ?_⟩
 by_cases e : i = j
 ·subst e
  rw [List.getElem_set_self]
  simpa using (h.blk i hi hi').set_ k u
 ·rw [List.getElem_set_ne e]
  refine (h.blk j a _).far ?_ u
  intro he
  have := (List.pairwise_iff_getElem.1 h.nd)
  rcases Nat.lt_or_gt_of_ne e with h1 | h1
  ·exact this i j hi a h1 he.symm
  ·exact this j i a hi h1 he
theorem Rows.cell (h : Rows w t G R) {i : Nat} (hi : i < G.length) (hi' : i < R.length) (k : Nat) : w.cell? ⟨G[i]'hi, k, Option.none⟩ = (R[i]'hi')[k]? := by
 rw [(h.blk i hi hi').cell]; simp
end
theorem Rd.far {w : World} {A : Option Addr} {vs : List Value} (h : Rd w A vs) {p : Addr} (hp : ∀ g, ob A = some g → g ≠ p.block) (u : Value) : Rd (w.setCell p u) A vs := by
 rcases h with h | ⟨g, off, rfl, h⟩
 ·exact .inl h
 ·exact .inr ⟨g, off, rfl, fun j v hv => (World.cell?_setCell_other w p _ u (fun e => hp g rfl (by rw [e]))).trans (h j v hv)⟩
def hds (m : Nat) (G : List Nat) : List H := G.map fun g => (some ⟨g, 0, none⟩, m, m)
theorem infoS : (Tryz.prog.info? 24).map (fun i => (i.zero, i.size, i.bytes)) = some (some (.slice none 0 0), 1, 24) := by kernel_rfl
section
variable (w : World) {ops : Array Oper} {rest : List Oper} {o : Oper} {a : Act} {Q : Exit → Act → World → Prop}
theorem app_S (hgd : o.guard = none) (s x : Operand) (ho : o.op = .call { callee := .builtin .append, args := #[s, x], argTypes := #[38, 38] })
  (base : Nat) (A : Option Addr) (n c : Nat) (l : List H) (hs : a.eval s = .slice A n c) (hown : w.ownsRow base 24 1 (.slice A n c) n (vS l))
  (A2 : Option Addr) (m c2 : Nat) (l2 : List H) (hx : a.eval x = .slice A2 m c2) (hr : Rd w A2 (vS l2)) (hl : l2.length = m) (hb : n + m ≤ 1099511627776) (hbase : base ≤ w.heap.size)
  (h : ∀ A' c' w', w'.ownsRow base 24 1 (.slice A' (n + m) c') (n + m) (vS (l ++ l2)) → w.grownBy w' (ob A) → (ob A' = ob A ∨ ob A' = some w.heap.size) → wpList Tryz.prog ops Q rest (a.put o.dst (.slice A' (n + m) c')) w') :
  wpList Tryz.prog ops Q (o :: rest) a w := by
 obtain ⟨i0, hi, hz0, hz1, hz2⟩ := info_parts infoS
 refine wpList_app w hgd s x _ ho base _ i0 _ 1 24 Tryz.underlying38 hi hz0 hz1 hz2 rfl (by omega) A n c _ hs hown A2 m c2 _ hx hr (by rw [vS_length, hl]; omega) (vS_one _) (by unfold maxLen; omega) (by omega) hbase ?_
 intro A' c' w' h1
 rw [← vS_append] at h1
 exact h A' c' w' h1
end
end

section
structure RdP (w : World) (A : Option Addr) (n : Nat) (hs : List H) (F : List (List C)) : Prop where
 top : Rd w A (vS hs)
 hlen : hs.length = n
 flen : F.length = n
 row : ∀ k (a : k < hs.length) (b : k < F.length), F[k].length = hs[k].2.1 ∧ Rd w hs[k].1 (vC F[k])
theorem RdP.below {w w' : World} {A : Option Addr} {n : Nat} {hs : List H} {F : List (List C)} (h : RdP w A n hs F) (hb : Below w.heap.size w w') : RdP w' A n hs F :=
 ⟨h.top.below hb, h.hlen, h.flen, fun k a b => ⟨(h.row k a b).1, (h.row k a b).2.below hb⟩⟩
theorem RdP.alloc {w : World} {A : Option Addr} {n : Nat} {hs : List H} {F : List (List C)} (h : RdP w A n hs F) (o : Obj) : RdP (w.alloc o) A n hs F := h.below (Below.alloc (Below.refl _ _) (Nat.le_refl _) o)
theorem RdP.nil (w : World) : RdP w none 0 [] [] := ⟨.inl rfl, rfl, rfl, fun k a => by simp at a⟩
theorem RdP.at_ {w : World} {A : Option Addr} {n : Nat} {hs : List H} {F : List (List C)} (h : RdP w A n hs F) {k : Nat} (hk : k < n) :
  ∃ (x : H) (f : List C) (g off : Nat), hs[k]? = some x ∧ F[k]? = some f ∧ A = some ⟨g, off, none⟩ ∧ g < w.heap.size ∧ w.cell? ⟨g, off + k, none⟩ = some (.slice x.1 x.2.1 x.2.2) ∧ f.length = x.2.1 ∧ Rd w x.1 (vC f) := by
 have a : k < hs.length := by rw [h.hlen]; exact hk
 have b : k < F.length := by rw [h.flen]; exact hk
 obtain ⟨g, off, e, hg, c1⟩ := RdS.at_ h.top a
 exact ⟨hs[k], F[k], g, off, List.getElem?_eq_getElem a, List.getElem?_eq_getElem b, e, hg, c1, (h.row k a b).1, (h.row k a b).2⟩
def totC (F : List (List C)) : Nat := (F.map List.length).sum
theorem totC_take (F : List (List C)) (j : Nat) (h : j < F.length) : totC (F.take (j + 1)) = totC (F.take j) + F[j].length := by
 rw [List.take_succ_eq_append_getElem h]
 simp only [totC, List.map_append, List.map_cons, List.map_nil, List.sum_append, List.sum_cons, List.sum_nil, Nat.add_zero]
theorem totC_le (F : List (List C)) (j : Nat) : totC (F.take j) ≤ totC F := by
 have : totC F = totC (F.take j) + totC (F.drop j) := by
  have := List.take_append_drop j F
  conv => lhs; rw [← this]
  simp only [totC, List.map_append, List.sum_append]
 omega
theorem totC_row (F : List (List C)) {k : Nat} {f : List C} (h : F[k]? = some f) : f.length ≤ totC F := by
 obtain ⟨hk, rfl⟩ := List.getElem?_eq_some_iff.1 h
 have := totC_take F k hk
 have := totC_le F (k + 1)
 omega
end

section
attribute [local go_sem ↓] Go.wp_at_zero Go.wp_at_succ
def pcs (F : List (List C)) : Bool := F.all isShape && (decide (1 ≤ (F.length : Int)) && decide ((F.length : Int) ≤ 5))
def paV (F : List (List C)) : Int := if pcs F then (totC F : Nat) else 0
theorem all_drop {F : List (List C)} {k : Nat} {f : List C} (h : F[k]? = some f) : (F.drop k).all isShape = (isShape f && (F.drop (k + 1)).all isShape) := by
 obtain ⟨hk, rfl⟩ := List.getElem?_eq_some_iff.1 h
 rw [List.drop_eq_getElem_cons hk]
 rfl
theorem pcs_small {F : List (List C)} (h : pcs F = true) : F.length ≤ 5 ∧ totC F ≤ 40 := by
 unfold pcs at h
 simp only [Bool.and_eq_true, decide_eq_true_eq, List.all_eq_true] at h
 obtain ⟨h1, h2, h3⟩ := h
 have key : ∀ G : List (List C), (∀ f ∈ G, isShape f = true) → totC G ≤ 8 * G.length := by
  intro G
  induction G with
  | nil => intro _; simp [totC]
  | cons f t ih =>
   intro hG
   have a := (shape_len (hG f (by simp))).2
   have b := ih (fun g hg => hG g (by simp [hg]))
   simp only [totC, List.map_cons, List.sum_cons, List.length_cons] at b ⊢
   omega
 have := key F h1
 omega
theorem ArePieces_i (A : Option Addr) (n c : Nat) (hs : List H) (F : List (List C)) (w : World) (h : RdP w A n hs F) (hn : n ≤ 1048576) (hm : totC F ≤ 1048576) :
  Calls Tryz.prog 128 #[.slice A n c] w (Ret w (.bool (pcs F))) := by
 have HP := Lib.hid h
 have HV : Hid (pcs F = ((F.drop 0).all isShape && (decide (1 ≤ (n : Int)) && decide ((n : Int) ≤ 5)))) := by show pcs F = _; unfold pcs; rw [h.flen]; rfl
 clear h
 go_enter Tryz.func128, Tryz.ntmps128
 go_wp2
 go_loopw [7] (fun i wr => ∃ k : Nat, k ≤ n ∧ i = .int .i64 k ∧ (F.drop 0).all isShape = (F.drop k).all isShape ∧ Below w.heap.size w wr) (fun i _ => n - (intOf i).toNat)
 case atStart => exact ⟨0, Nat.zero_le _, rfl, rfl, Below.refl _ _⟩
 case round =>
  obtain ⟨k, hk, rfl, hall, hb⟩ := hrel
  by_cases hlt : k < n
  ·have hk0 : (0 : Int) ≤ (k : Int) := by omega
   have hk1 : (k : Int) < (n : Int) := by omega
   obtain ⟨x, f, g, off, _, hfx, rfl, hg, d1, l1, r1⟩ := (HP.out.below hb).at_ hlt
   have hmf := totC_row F hfx
   rw [all_drop hfx] at hall
   obtain ⟨B1, m1, k1⟩ := x
   dsimp only at d1 l1 r1
   have hm1 : m1 ≤ 1099511627776 := by omega
   have L1 := Lib.hid l1
   have R1 := Lib.hid r1
   clear l1 r1 hfx hmf
   cases hsf : isShape f with
   | true =>
    rw [hsf, Bool.true_and] at hall
    have HA := Lib.hid hall
    have HS := Lib.hid hsf
    clear hall hsf
    go_wp2_with fail
    refine (IsShape_i _ _ _ f _ R1.out L1.out hm1).mono ?_
    rw [HS.out]
    rintro e w1 ⟨rfl, hb1⟩
    go_wp2_with fail
    exact ⟨⟨k + 1, by omega, by go_num, HA.out, (by (repeat (first | with_reducible exact Below.refl _ _ | with_reducible assumption | with_reducible apply bel_alloc | with_reducible apply bel_drew | with_reducible apply bel_drewN | ((with_reducible refine bel_set ?_ ?_); rotate_left; (simp <;> omega)) | (with_reducible refine bel_trans ?_ (by with_reducible assumption)))))⟩, by simp [intOf]; omega⟩
   | false =>
    rw [hsf, Bool.false_and] at hall
    have HA : Hid (pcs F = false) := by rw [HV.out, hall]; rfl
    have HS := Lib.hid hsf
    clear hall hsf
    go_wp2_with fail
    refine (IsShape_i _ _ _ f _ R1.out L1.out hm1).mono ?_
    rw [HS.out]
    rintro e w1 ⟨rfl, hb1⟩
    go_wp2_with fail
    go_ret
    exact ⟨by rw [HA.out]; rfl, (by (repeat (first | with_reducible exact Below.refl _ _ | with_reducible assumption | with_reducible apply bel_alloc | with_reducible apply bel_drew | with_reducible apply bel_drewN | ((with_reducible refine bel_set ?_ ?_); rotate_left; (simp <;> omega)) | (with_reducible refine bel_trans ?_ (by with_reducible assumption)))))⟩
  ·have hkn : k = n := by omega
   subst hkn
   rw [List.drop_of_length_le (l := F) (i := k) (by rw [HP.out.flen]; omega)] at hall
   have HA : Hid (pcs F = (decide (1 ≤ (k : Int)) && decide ((k : Int) ≤ 5))) := by rw [HV.out, hall]; rfl
   have hk1 : ¬ (k : Int) < (k : Int) := by omega
   clear hall
   go_wp2_with fail
   refine (between_b _ _ _ _ _ HA.out).mono ?_
   rintro e w1 ⟨rfl, hb1⟩
   go_wp2_with fail
   go_ret
   exact ⟨rfl, bel_trans hb hb1⟩
theorem ArePieces_s (A : Option Addr) (n c : Nat) (hs : List H) (F : List (List C)) (w : World) (h : RdP w A n hs F) (hn : n ≤ 1048576) (hm : totC F ≤ 1048576) :
  Calls Tryz.prog 79 #[.slice A n c] w (Ret w (.bool (pcs F))) := by
 have HP := Lib.hid h
 have HV : Hid (pcs F = ((F.drop 0).all isShape && (decide (1 ≤ (n : Int)) && decide ((n : Int) ≤ 5)))) := by show pcs F = _; unfold pcs; rw [h.flen]; rfl
 clear h
 go_enter Tryz.func79, Tryz.ntmps79
 go_wp2
 go_loopw [3] (fun i wr => ∃ k : Nat, k ≤ n ∧ i = .int .i64 k ∧ (F.drop 0).all isShape = (F.drop k).all isShape ∧ Below w.heap.size w wr) (fun i _ => n - (intOf i).toNat)
 case atStart => exact ⟨0, Nat.zero_le _, rfl, rfl, Below.refl _ _⟩
 case round =>
  obtain ⟨k, hk, rfl, hall, hb⟩ := hrel
  by_cases hlt : k < n
  ·have hk0 : (0 : Int) ≤ (k : Int) := by omega
   have hk1 : (k : Int) < (n : Int) := by omega
   obtain ⟨x, f, g, off, _, hfx, rfl, hg, d1, l1, r1⟩ := (HP.out.below hb).at_ hlt
   have hmf := totC_row F hfx
   rw [all_drop hfx] at hall
   obtain ⟨B1, m1, k1⟩ := x
   dsimp only at d1 l1 r1
   have hm1 : m1 ≤ 1099511627776 := by omega
   have L1 := Lib.hid l1
   have R1 := Lib.hid r1
   clear l1 r1 hfx hmf
   cases hsf : isShape f with
   | true =>
    rw [hsf, Bool.true_and] at hall
    have HA := Lib.hid hall
    have HS := Lib.hid hsf
    clear hall hsf
    go_wp2_with fail
    refine (IsShape_s _ _ _ f _ R1.out L1.out hm1).mono ?_
    rw [HS.out]
    rintro e w1 ⟨rfl, hb1⟩
    go_wp2_with fail
    exact ⟨⟨k + 1, by omega, by go_num, HA.out, (by (repeat (first | with_reducible exact Below.refl _ _ | with_reducible assumption | with_reducible apply bel_alloc | with_reducible apply bel_drew | with_reducible apply bel_drewN | ((with_reducible refine bel_set ?_ ?_); rotate_left; (simp <;> omega)) | (with_reducible refine bel_trans ?_ (by with_reducible assumption)))))⟩, by simp [intOf]; omega⟩
   | false =>
    rw [hsf, Bool.false_and] at hall
    have HA : Hid (pcs F = false) := by rw [HV.out, hall]; rfl
    have HS := Lib.hid hsf
    clear hall hsf
    go_wp2_with fail
    refine (IsShape_s _ _ _ f _ R1.out L1.out hm1).mono ?_
    rw [HS.out]
    rintro e w1 ⟨rfl, hb1⟩
    go_wp2_with fail
    go_ret
    exact ⟨by rw [HA.out]; rfl, (by (repeat (first | with_reducible exact Below.refl _ _ | with_reducible assumption | with_reducible apply bel_alloc | with_reducible apply bel_drew | with_reducible apply bel_drewN | ((with_reducible refine bel_set ?_ ?_); rotate_left; (simp <;> omega)) | (with_reducible refine bel_trans ?_ (by with_reducible assumption)))))⟩
  ·have hkn : k = n := by omega
   subst hkn
   rw [List.drop_of_length_le (l := F) (i := k) (by rw [HP.out.flen]; omega)] at hall
   have HA : Hid (pcs F = (decide (1 ≤ (k : Int)) && decide ((k : Int) ≤ 5))) := by rw [HV.out, hall]; rfl
   have hk1 : ¬ (k : Int) < (k : Int) := by omega
   clear hall
   go_wp2_with fail
   refine (l1In_b _ _ _ _ _ HA.out).mono ?_
   rintro e w1 ⟨rfl, hb1⟩
   go_wp2_with fail
   go_ret
   exact ⟨rfl, bel_trans hb hb1⟩
end

section
def posM (W : Nat) (c : C) : Nat := (c.2 * W + c.1).toNat
def hasR (W : Int) (rows : List Int) (c : C) : Bool :=
 (decide (0 ≤ c.1) && decide (c.1 < W)) && (decide (0 ≤ c.2) && decide (c.2 < rows.length)) && (rows.getD c.2.toNat 0).toNat.testBit c.1.toNat
def mcV (W : Int) (rows : List Int) : List C → Nat → Option Nat
 | [], n => some n
 | c :: t, n => if hasR W rows c && !n.testBit (posM W.toNat c) then mcV W rows t (n + 2 ^ posM W.toNat c) else none
theorem hasR_pos {m : Nat} {rows : List Int} {c : C} (h : hasR (m : Int) rows c = true) : ∃ x y : Nat, c = ((x : Int), (y : Int)) ∧ x < m ∧ y < rows.length ∧ posM m c = y * m + x ∧ y * m + x < m * rows.length := by
 unfold hasR at h
 simp only [Bool.and_eq_true, decide_eq_true_eq] at h
 obtain ⟨⟨⟨h1, h2⟩, h3, h4⟩, _⟩ := h
 obtain ⟨x, hx⟩ := Int.eq_ofNat_of_zero_le h1
 obtain ⟨y, hy⟩ := Int.eq_ofNat_of_zero_le h3
 have e : c = ((x : Int), (y : Int)) := Prod.ext hx hy
 subst e
 simp only at h2 h4
 have hx' : x < m := by omega
 have hy' : y < rows.length := by omega
 refine ⟨x, y, rfl, hx', hy', ?_, ?_⟩
 ·show ((y : Int) * (m : Int) + (x : Int)).toNat = _
  rw [show (y : Int) * (m : Int) + (x : Int) = ((y * m + x : Nat) : Int) from by simp]
  exact Int.toNat_natCast _
 ·have : (y + 1) * m ≤ rows.length * m := Nat.mul_le_mul_right m hy'
  rw [Nat.succ_mul] at this
  rw [Nat.mul_comm m]
  omega
theorem mcV_lt {m : Nat} {rows : List Int} (h36 : m * rows.length ≤ 36) : ∀ (l : List C) (n v : Nat), n < 2 ^ (m * rows.length) → mcV (m : Int) rows l n = some v → v < 2 ^ (m * rows.length)
 | [], n, v, hn, h => by simp only [mcV, Option.some.injEq] at h; omega
 | c :: t, n, v, hn, h => by
  unfold mcV at h
  split at h
  ·next hc =>
   simp only [Bool.and_eq_true, Bool.not_eq_true'] at hc
   obtain ⟨x, y, _, _, _, hp, hlt⟩ := hasR_pos hc.1
   have e : ((m : Int)).toNat = m := Int.toNat_natCast _
   rw [e] at h hc
   have h62 : (2 : Nat) ^ (m * rows.length) ≤ 2 ^ 36 := Nat.pow_le_pow_right (by decide) h36
   have : n + 2 ^ posM m c < 2 ^ (m * rows.length) := by
    rw [← or_bit (by omega) (by omega) hc.2]
    exact Nat.or_lt_two_pow hn (Nat.pow_lt_pow_right (by decide) (by omega))
   exact mcV_lt h36 t _ v this h
  ·cases h
def optL : Option Nat → List Int
 | some m => [(m : Int)]
 | none => []
def plAt (W : Int) (rows : List Int) (t : List C) (y x : Nat) : List Int := optL (mcV W rows (mv t x y) 0)
def rowX (W : Int) (rows : List Int) (t : List C) (y : Nat) : Nat → List Int
 | 0 => []
 | k + 1 => rowX W rows t y k ++ plAt W rows t y k
def rowY (W : Int) (rows : List Int) (t : List C) : Nat → List Int
 | 0 => []
 | k + 1 => rowY W rows t k ++ rowX W rows t k W.toNat
def rawTo (W : Int) (rows : List Int) (F : List (List C)) : Nat → List Int
 | 0 => []
 | k + 1 => rawTo W rows F k ++ rowY W rows (F.getD k []) rows.length
def rawV (W : Int) (rows : List Int) (s : List C) : List Int := rawTo W rows (orV s) (orV s).length
def plV (W : Int) (rows : List Int) (s : List C) : List Int := if isReg W rows then putAll (rawV W rows s) else []
def Msk (N : Nat) (l : List Int) : Prop := ∀ x ∈ l, ∃ q : Nat, x = (q : Int) ∧ q < 2 ^ N
theorem Msk.nil (N : Nat) : Msk N [] := by simp [Msk]
theorem Msk.app {N : Nat} {a b : List Int} (h : Msk N a) (k : Msk N b) : Msk N (a ++ b) := fun x hx => by
 rcases List.mem_append.1 hx with h1 | h1
 ·exact h x h1
 ·exact k x h1
theorem plAt_msk {m : Nat} {rows : List Int} (h36 : m * rows.length ≤ 36) (t : List C) (y x : Nat) : Msk (m * rows.length) (plAt (m : Int) rows t y x) ∧ (plAt (m : Int) rows t y x).length ≤ 1 := by
 unfold plAt
 rcases hv : mcV (m : Int) rows (mv t x y) 0 with _ | v
 ·exact ⟨Msk.nil _, by simp [optL]⟩
 ·refine ⟨fun z hz => ?_, by simp [optL]⟩
  simp only [optL, List.mem_singleton] at hz
  exact ⟨v, hz, mcV_lt h36 _ 0 v (Nat.pow_pos (by decide)) hv⟩
theorem rowX_msk {m : Nat} {rows : List Int} (h36 : m * rows.length ≤ 36) (t : List C) (y : Nat) : ∀ k, Msk (m * rows.length) (rowX (m : Int) rows t y k) ∧ (rowX (m : Int) rows t y k).length ≤ k
 | 0 => ⟨Msk.nil _, by simp [rowX]⟩
 | k + 1 => by
  obtain ⟨h1, h2⟩ := rowX_msk h36 t y k
  obtain ⟨h3, h4⟩ := plAt_msk h36 t y k
  refine ⟨h1.app h3, ?_⟩
  show (rowX _ _ _ _ _ ++ plAt _ _ _ _ _).length ≤ _
  rw [List.length_append]
  omega
theorem rowY_msk {m : Nat} {rows : List Int} (h36 : m * rows.length ≤ 36) (t : List C) : ∀ k, Msk (m * rows.length) (rowY (m : Int) rows t k) ∧ (rowY (m : Int) rows t k).length ≤ k * m
 | 0 => ⟨Msk.nil _, by simp [rowY]⟩
 | k + 1 => by
  obtain ⟨h1, h2⟩ := rowY_msk h36 t k
  obtain ⟨h3, h4⟩ := rowX_msk h36 t k m
  have e : ((m : Int)).toNat = m := Int.toNat_natCast _
  refine ⟨?_, ?_⟩
  ·show Msk _ (rowY _ _ _ _ ++ rowX _ _ _ _ _)
   rw [e]
   exact h1.app h3
  ·show (rowY _ _ _ _ ++ rowX _ _ _ _ _).length ≤ _
   rw [List.length_append, e, Nat.succ_mul]
   omega
theorem rawTo_msk {m : Nat} {rows : List Int} (h36 : m * rows.length ≤ 36) (F : List (List C)) : ∀ k, Msk (m * rows.length) (rawTo (m : Int) rows F k) ∧ (rawTo (m : Int) rows F k).length ≤ k * 36
 | 0 => ⟨Msk.nil _, by simp [rawTo]⟩
 | k + 1 => by
  obtain ⟨h1, h2⟩ := rawTo_msk h36 F k
  obtain ⟨h3, h4⟩ := rowY_msk h36 (F.getD k []) rows.length
  refine ⟨h1.app h3, ?_⟩
  show (rawTo _ _ _ _ ++ rowY _ _ _ _).length ≤ _
  rw [Nat.mul_comm rows.length] at h4
  rw [List.length_append, Nat.succ_mul]
  omega
theorem reg36 {W : Int} {rows : List Int} (h : isReg W rows = true) : ∃ m : Nat, W = (m : Int) ∧ m * rows.length ≤ 36 := by
 obtain ⟨m, rfl, _, h6, _, h7, _⟩ := isReg_yes h
 have : m * rows.length ≤ 6 * 6 := Nat.mul_le_mul h6 h7
 exact ⟨m, rfl, this⟩
theorem rawV_len {W : Int} {rows : List Int} (h : isReg W rows = true) (s : List C) : (rawV W rows s).length ≤ 288 := by
 obtain ⟨m, rfl, h36⟩ := reg36 h
 have h1 := (rawTo_msk h36 (orV s) (orV s).length).2
 have h2 := orV_len s
 have : (orV s).length * 36 ≤ 8 * 36 := Nat.mul_le_mul_right _ h2
 unfold rawV
 omega
theorem putAll_mem (l : List Int) (x : Int) : x ∈ putAll l ↔ x ∈ l := by
 have := (foldl_inc l [] List.Pairwise.nil).2 x
 simpa [putAll] using this
theorem putAll_len (l : List Int) : (putAll l).length ≤ l.length := by rw [← ord_eq]; exact ord_len l
theorem plV_len (W : Int) (rows : List Int) (s : List C) : (plV W rows s).length ≤ 288 := by
 unfold plV
 split
 ·next h => exact Nat.le_trans (putAll_len _) (rawV_len h s)
 ·simp
theorem plV_msk (W : Int) (rows : List Int) (s : List C) : Msk 36 (plV W rows s) := by
 unfold plV
 split
 ·next h =>
  obtain ⟨m, rfl, h36⟩ := reg36 h
  intro x hx
  obtain ⟨q, e, hq⟩ := (rawTo_msk h36 (orV s) (orV s).length).1 x ((putAll_mem _ _).1 hx)
  exact ⟨q, e, Nat.lt_of_lt_of_le hq (Nat.pow_le_pow_right (by decide) h36)⟩
 ·exact Msk.nil _
theorem bit_testP (m k : Nat) (hm : m < 2 ^ 62) : (bits .and .i64 ((m : Int) / 2 ^ k) 1 == 1) = m.testBit k := by
 have e : ((m : Int) / 2 ^ k) = ((m / 2 ^ k : Nat) : Int) := by simp
 have hle := Nat.div_le_self m (2 ^ k)
 have h1 := i64_and (m / 2 ^ k) 1 (by omega) (by decide)
 rw [e, show (1 : Int) = ((1 : Nat) : Int) from rfl, h1, Nat.and_one_is_mod, bit_and]
 cases m.testBit k <;> rfl
def mcR : Option Nat → Value
 | some v => .tuple #[.int .i64 (v : Int), .bool true]
 | none => .tuple #[.int .i64 0, .bool false]
theorem mcV_no {W : Int} {rows : List Int} {c : C} {t : List C} {n : Nat} (h : (hasR W rows c && !n.testBit (posM W.toNat c)) = false) : mcV W rows (c :: t) n = none := by unfold mcV; rw [h]; rfl
theorem mcV_yes {W : Int} {rows : List Int} {c : C} {t : List C} {n : Nat} (h : (hasR W rows c && !n.testBit (posM W.toNat c)) = true) : mcV W rows (c :: t) n = mcV W rows t (n + 2 ^ posM W.toNat c) := by
 show (if _ then _ else _) = _
 rw [if_pos h]
theorem putAll_snoc (l : List Int) (x : Int) : putAll (l ++ [x]) = putI (putAll l) x := by simp [putAll]
def catTo (W : Int) (rows : List Int) (P : List (List C)) : Nat → List Int
 | 0 => []
 | k + 1 => catTo W rows P k ++ plV W rows (P.getD k [])
def allV (W : Int) (rows : List Int) (P : List (List C)) : List Int := putAll (catTo W rows P P.length)
theorem catTo_msk (W : Int) (rows : List Int) (P : List (List C)) : ∀ k, Msk 36 (catTo W rows P k) ∧ (catTo W rows P k).length ≤ 288 * k
 | 0 => ⟨Msk.nil _, by simp [catTo]⟩
 | k + 1 => by
  obtain ⟨h1, h2⟩ := catTo_msk W rows P k
  refine ⟨h1.app (plV_msk W rows _), ?_⟩
  have := plV_len W rows (P.getD k [])
  show (catTo W rows P k ++ plV _ _ _).length ≤ _
  rw [List.length_append]
  omega
theorem allV_msk (W : Int) (rows : List Int) (P : List (List C)) : Msk 36 (allV W rows P) := fun x hx => (catTo_msk W rows P P.length).1 x ((putAll_mem _ _).1 hx)
theorem allV_len (W : Int) (rows : List Int) (P : List (List C)) : (allV W rows P).length ≤ 288 * P.length := Nat.le_trans (putAll_len _) (catTo_msk W rows P P.length).2
theorem allV_inc (W : Int) (rows : List Int) (P : List (List C)) : Inc (allV W rows P) := (foldl_inc _ [] List.Pairwise.nil).1
def optTo (ok : Nat → Nat → Bool) (f : Nat → Nat) : Nat → Option Nat
 | 0 => some 0
 | k + 1 => match optTo ok f k with
  | none => none
  | some u => if ok k u then some (u ||| f k) else none
def optIs : Option Nat → Nat → Bool
 | none, _ => false
 | some u, v => u == v
def solOk (W : Int) (rows : List Int) (P : List (List C)) (l : List Int) (k u : Nat) : Bool := (plV W rows (P.getD k [])).any (· == l.getD k 0) && u &&& (l.getD k 0).toNat == 0
def solTo (W : Int) (rows : List Int) (P : List (List C)) (l : List Int) : Nat → Option Nat := optTo (solOk W rows P l) (fun k => (l.getD k 0).toNat)
def solV (W : Int) (rows : List Int) (P : List (List C)) (l : List Int) : Bool := (isReg W rows && pcs P) && (l.length == P.length && optIs (solTo W rows P l l.length) (maskV W rows))
def covOk (L l : List Int) (k : Nat) (_u : Nat) : Bool := L.any (· == l.getD k 0) && (k == 0 || decide (l.getD (k - 1) 0 < l.getD k 0))
def covTo (L l : List Int) : Nat → Option Nat := optTo (covOk L l) (fun k => (l.getD k 0).toNat)
def covV (W : Int) (rows : List Int) (P : List (List C)) (l : List Int) : Bool := (isReg W rows && pcs P) && optIs (covTo (allV W rows P) l l.length) (maskV W rows)
end
end Go.Proofs.YtkcgdnnipohehaaGreatDoor
