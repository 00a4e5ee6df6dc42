/- Texts of this claim, one behind the other: part 3. -/
import Derived.Test.YtglilkneipfheaaU2FnSites
import Derived.Outline
import Derived.WalkLawsBesides
import Derived.WalkSpells
import Derived.BigQuiet
import Derived.Deep.QuietTactic
import Derived.Deep.RegionHeld3
import Derived.Deep.RegionWith
import Derived.Deep.DeepCutAuto
import Derived.Deep.CutBlock
import Derived.Deep.DrawnRows
import Derived.Shelf.Small.Bits
import Derived.Shelf.Strconv.Itoa0
import Derived.Shelf.Sort.Plain
import Derived.Ground.GgsProg
import Derived.Shelf.GgSortFunc.Insertion
import Derived.Shelf.GgSortFunc.Small
import Derived.Shelf.GgSortFunc.InsertionK
import Derived.Shelf.GgSortFunc.SmallK
import Derived.Shelf.GgSortFunc.Tiny
import Derived.Shelf.GgSortFunc.Compose
import Derived.Shelf.GgSortFunc.LotD
import Derived.Shelf.GgSortFunc.Pivot
import Derived.Shelf.GgSortFunc.Partition
import Derived.Shelf.GgSortFunc.Pdq
import Derived.Shelf.GgSortFunc.Whole
import Derived.Ground.Names2Prog
import Derived.Shelf.Slices.SearchI
import Derived.Shelf.Slices.In.SortNone
import Derived.Shelf.Slices.In.SortNone2
import Derived.Shelf.SlSortFunc.Xorshift
import Derived.Shelf.SlSortFuncK.ComposeK
import Derived.Shelf.SlSortFuncK.SiftDownK
import Derived.Shelf.SlSortFuncK.HeapSortK
import Derived.Shelf.SlSortFuncK.PartialInsertionK
import Derived.Shelf.SlSortFuncK.LotDK
import Derived.Shelf.SlSortFuncK.PivotK
import Derived.Shelf.SlSortFuncK.PartitionK
import Derived.Shelf.SlSortFunc.SiftDown
import Derived.Shelf.SlSortFunc.HeapSort
import Derived.Shelf.SlSortFunc.PartialInsertion
import Derived.Shelf.SlSortFuncK.PdqK
import Derived.Shelf.SlSortFuncK.WholeK
import Derived.Test.YtglilkneipfheaaProg
import Derived.Lib.ReflectliteSwap
import Derived.Laws.CopyOwn
import Derived.MapKept
import Derived.Carry
/- The shapes with one cell more: the reference. -/
namespace Go.Proofs.Ytglilkneipfheaa
open Go.RowKit
set_option linter.unusedVariables false
attribute [local go_sem ↓] Go.wp_at_zero Go.wp_at_succ

theorem sidesS_small {c : C} (h : onB c = true) : ∀ d ∈ sidesS c, -1 ≤ d.1 ∧ d.1 ≤ 8 ∧ -1 ≤ d.2 ∧ d.2 ≤ 8 := by
  intro d hd
  exact sidesV_small h d ((sides_same c d).2 hd)
theorem own_lit2 (w : World) {base : Nat} (h : base ≤ w.heap.size) : (w.alloc (.cells #[] 59)).ownsRow base 59 2 (.slice (some ⟨w.heap.size, 0, none⟩) 0 0) 0 (vC []) := own_new w _ 2 0 #[] rfl (by simp [maxLen]) h
/-- The shapes with one cell more, as the reference has them: none for a list that is no shape, or has eight cells. -/
def extR (s : List C) : List (List C) := if isShape s = true ∧ s.length ≠ 8 then extV s else []
def RetFA (w : World) (F : List (List C)) (e : Ending) (w' : World) : Prop :=
  ∃ g n c hs, e = .returned (.slice (some ⟨g, 0, none⟩) n c) ∧ OwnF w.heap.size w' (some ⟨g, 0, none⟩) n c hs F ∧ Below w.heap.size w w'
set_option maxRecDepth 100000 in
set_option maxHeartbeats 6400000 in
theorem ExtensionsOf_s (A : Option Addr) (n c : Nat) (xs : List C) (w : World) (hr : Rd w A (vC xs)) (hl : xs.length = n) (hn : n ≤ 1048576) :
    Calls Try.prog 86 #[.slice A n c] w (RetFA w (extR xs)) := by
  have hini : (w.alloc (.cells #[] 30)).ownsRow w.heap.size 30 1 (.slice (some ⟨w.heap.size, 0, none⟩) 0 0) 0 [] := own_new w _ 1 0 #[] rfl (by simp [maxLen]) (Nat.le_refl _)
  have HI := Lib.hid (OwnF.none_ hini)
  have HL := Lib.hid hl
  have HR := Lib.hid hr
  have hnn : n ≤ 1099511627776 := by omega
  cases hs : isShape xs with
  | false =>
    have HV : Hid (extR xs = []) := by show extR xs = []; unfold extR; rw [hs]; simp
    have HS := Lib.hid hs
    clear hs hl hr hini
    go_enter Try.func86, Try.ntmps86
    go_wp2_with fail
    refine (IsShape_s A n c xs _ (HR.out.alloc _) HL.out hnn).mono ?_
    rw [HS.out]
    rintro e w1 ⟨rfl, hb1⟩
    go_wp2_with fail
    go_ret
    exact ⟨w.heap.size, 0, 0, [], rfl, by rw [HV.out]; exact HI.out.below hb1, bel_trans (bel_alloc (Below.refl _ _) _) hb1⟩
  | true =>
    by_cases h8 : n = 8
    · have HV : Hid (extR xs = []) := by show extR xs = []; unfold extR; rw [if_neg (by rw [hl]; simp [h8])]
      have HS := Lib.hid hs
      have e8 : ((n : Int) == 8) = true := by simp [h8]
      have e8n : n = 8 := h8
      clear hs hl hr hini h8 e8n
      go_enter Try.func86, Try.ntmps86
      go_wp2_with fail
      refine (IsShape_s A n c xs _ (HR.out.alloc _) HL.out hnn).mono ?_
      rw [HS.out]
      rintro e w1 ⟨rfl, hb1⟩
      go_wp2_with fail
      go_ret
      exact ⟨w.heap.size, 0, 0, [], rfl, by rw [HV.out]; exact HI.out.below hb1, bel_trans (bel_alloc (Below.refl _ _) _) hb1⟩
    · have HV : Hid (extR xs = extTo sidesS xs n) := by show extR xs = _; unfold extR; rw [if_pos ⟨hs, by rw [hl]; exact h8⟩, ← hl, ext_same]
      have hn7 : n ≤ 7 := by have := (shape_len hs).2; omega
      have HSH := Lib.hid hs
      have e8 : ((n : Int) == 8) = false := by rw [beq_eq_false_iff_ne]; omega
      have h8n : ¬ n = 8 := h8
      clear hs hl hr hini h8
      go_enter Try.func86, Try.ntmps86
      go_wp2_with fail
      refine (IsShape_s A n c xs _ (HR.out.alloc _) HL.out hnn).mono ?_
      rw [HSH.out]
      rintro e w1 ⟨rfl, hb1⟩
      have HI1 := Lib.hid (HI.out.below hb1)
      have hbw1 : Below w.heap.size w w1 := bel_trans (bel_alloc (Below.refl _ _) _) hb1
      go_wp2_with fail
      go_loopw [4, 3] (fun e4 e3 wr => ∃ (k g q cq : Nat) (hs : List H), k ≤ n ∧ e4 = .int .i64 k ∧ e3 = .slice (some ⟨g, 0, none⟩) q cq ∧ OwnF w.heap.size wr (some ⟨g, 0, none⟩) q cq hs (extTo sidesS xs k) ∧ Below w.heap.size w wr) (fun e4 _ _ => n - (intOf e4).toNat)
      case atStart => exact ⟨0, _, 0, 0, [], Nat.zero_le _, rfl, rfl, HI1.out, hbw1⟩
      case round =>
        clear HI1 hbw1 hb1
        obtain ⟨k, gD, q, cq, hs, hk, rfl, rfl, hO, hb⟩ := hrel
        by_cases hlt : k < n
        · have hkl : k < xs.length := by rw [HL.out]; exact hlt
          have hk0 : (0 : Int) ≤ (k : Int) := by omega
          have hk1 : (k : Int) < (n : Int) := by omega
          have hon := shape_onB HSH.out _ (List.getElem_mem hkl)
          have hst := extTo_succ sidesS xs k hkl
          have hsl := extTo_len sidesS (fun _ => rfl) xs k (by omega)
          obtain ⟨p, hp⟩ : ∃ p, xs[k].1 = p := ⟨_, rfl⟩
          obtain ⟨r, hrr⟩ : ∃ r, xs[k].2 = r := ⟨_, rfl⟩
          rw [show xs[k] = (p, r) from Prod.ext hp hrr] at hon hst
          have hsv := sidesS_small hon
          have hpr : 0 ≤ p ∧ p ≤ 7 ∧ 0 ≤ r ∧ r ≤ 7 := by simp [onB] at hon; omega
          have hfine := extTo_fine sidesS xs k
          obtain ⟨F0, hF0⟩ : ∃ F0, extTo sidesS xs k = F0 := ⟨_, rfl⟩
          rw [hF0] at hst hsl hO hfine
          have HST := Lib.hid hst
          have HFI := Lib.hid hfine
          have HSV := Lib.hid hsv
          have HO := Lib.hid hO
          have HP := Lib.hid hp
          have HRR := Lib.hid hrr
          have HPR := Lib.hid hpr
          clear hst hfine hsv hO hp hrr hon hF0 hpr
          go_wp2_with fail
          go_loopw [5, 3] (fun e5 e3 wr => ∃ (j g q cq : Nat) (hs : List H) (F : List (List C)), j ≤ 4 ∧ e5 = .int .i64 j ∧ e3 = .slice (some ⟨g, 0, none⟩) q cq ∧ F = ((sidesS (p, r)).take j).foldl (extStep xs) F0 ∧ OwnF w.heap.size wr (some ⟨g, 0, none⟩) q cq hs F ∧ FineF F ∧ F.length ≤ 4 * k + j ∧ Below w.heap.size w wr) (fun e5 _ _ => 4 - (intOf e5).toNat)
          case atStart => exact ⟨0, gD, q, cq, hs, F0, Nat.zero_le _, rfl, rfl, rfl, HO.out, HFI.out, by omega, hb⟩
          case round =>
            clear HO hb hsl HFI
            obtain ⟨j, gD, q, cq, hs, F, hj, rfl, rfl, hF, hO, hfi, hfl, hb⟩ := hrel
            by_cases hj4 : j < 4
            · have hjl : j < (sidesS (p, r)).length := hj4
              have hj0 : (0 : Int) ≤ (j : Int) := by omega
              have hj1 : (j : Int) < 4 := by omega
              have hsm := HSV.out _ (List.getElem_mem hjl)
              have hstep : ((sidesS (p, r)).take (j + 1)).foldl (extStep xs) F0 = extStep xs F (sidesS (p, r))[j] := by
                rw [List.take_succ_eq_append_getElem hjl, List.foldl_append, ← hF]
                rfl
              obtain ⟨da, db, e1, e2, hd1, hd2, hab⟩ : ∃ da db : Int, ((1 : Int) - (j : Int)).tmod 2 = da ∧ ((2 : Int) - (j : Int)).tmod 2 = db ∧ (-1 ≤ da ∧ da ≤ 1) ∧ (-1 ≤ db ∧ db ≤ 1) ∧ (sidesS (p, r))[j] = (p + da, r + db) := by
                rcases (by omega : j = 0 ∨ j = 1 ∨ j = 2 ∨ j = 3) with rfl | rfl | rfl | rfl
                · exact ⟨1, 0, by decide, by decide, by omega, by omega, by simp [sidesS]⟩
                · exact ⟨0, 1, by decide, by decide, by omega, by omega, by simp [sidesS]⟩
                · exact ⟨-1, 0, by decide, by decide, by omega, by omega, by simp [sidesS]; omega⟩
                · exact ⟨0, -1, by decide, by decide, by omega, by omega, by simp [sidesS]; omega⟩
              have hpr := HPR.out
              obtain ⟨x, hx⟩ : ∃ x, p + da = x := ⟨_, rfl⟩
              obtain ⟨y, hy⟩ : ∃ y, r + db = y := ⟨_, rfl⟩
              rw [hab, hx, hy] at hsm hstep
              have v1 : IntKind.i64.wrap ((1 : Int) - (j : Int)) = (1 : Int) - (j : Int) := Go.IntWalk.i64_in _ (by omega)
              have v2 : IntKind.i64.wrap ((2 : Int) - (j : Int)) = (2 : Int) - (j : Int) := Go.IntWalk.i64_in _ (by omega)
              have v3 : IntKind.i64.wrap x = x := Go.IntWalk.i64_in _ (by omega)
              have v4 : IntKind.i64.wrap y = y := Go.IntWalk.i64_in _ (by omega)
              have v5 : IntKind.i64.wrap da = da := Go.IntWalk.i64_in _ (by omega)
              have v6 : IntKind.i64.wrap db = db := Go.IntWalk.i64_in _ (by omega)
              have hsmall := app_small HSH.out hsm
              have HSM := Lib.hid hsmall
              have HF := Lib.hid hF
              have HQF := Lib.hid hO.flen
              have hq33 : q ≤ 4 * k + j := by rw [← hO.flen]; exact hfl
              have HO := Lib.hid hO
              have HFI2 := Lib.hid hfi
              have HX := Lib.hid (HR.out.below hb)
              obtain ⟨g, off, hA, hg, d1, d2⟩ := RdC.at_ (HR.out.below hb) hkl
              subst hA
              rw [HP.out] at d1
              rw [HRR.out] at d2
              clear hF hO hfi hsm hsmall hab hd1 hd2 hpr
              go_wp2_with fail
              (refine wp_region_tailN (C := ExC wr) 19 (by kernel_rfl) (by kernel_rfl) (ExC.drawn _) (fun _ _ h k => ExC.ext h k) ?_; simp only [List.take_succ_cons, List.take_zero, List.drop_succ_cons, List.drop_zero]; (repeat (first | (refine headSkip (by rfl) rfl ?_; simp only [List.setIfInBounds_toArray, List.set_cons_zero, List.set_cons_succ]) | (refine headV (v := ?_) (by rfl) rfl (fun w' hcw => ?_) ?_; rotate_left; ((try dsimp only at hcw); have hbc := hcw.cells; go_simp; first | done | with_reducible rfl | fail); simp only [List.setIfInBounds_toArray, List.set_cons_zero, List.set_cons_succ]))); unfold wpHead)
              (refine tailK (by rfl) (fun b3 hc3 he3 K hK => ?_); go_simp; refine hK _ _ (hc3.ext (bel_alloc (Below.refl _ _) _)) ?_; clear hK K)
              have k3 := Blk.new b3 59 #[.int .i64 0, .int .i64 0]
              have hz3 := he3.size
              refine tailK (by rfl) (fun b4 hc4 he4 K hK => ?_)
              have k4 := k3.below he4
              have q1 : b4.cell? ⟨b3.heap.size, 0, none⟩ = some (.int .i64 0) := by simpa using k4.cell 0
              have q2 : b4.cell? ⟨b3.heap.size, 1, none⟩ = some (.int .i64 0) := by simpa using k4.cell 1
              have f1 := k4.frozen 0
              have f2 := k4.frozen 1
              go_simp
              refine hK _ _ (bel_set (bel_set hc4 (by simp; omega)) (by simp; omega)) ?_
              clear hK K
              (refine fun b5 hc5 he5 => NoPanic.normal ?_)
              have hK5 := ((k4.set_ 0 (.int .i64 x)).set_ 1 (.int .i64 y)).below he5
              have m0 : b5.cell? ⟨b3.heap.size, 0, none⟩ = some (.int .i64 x) := by simpa using hK5.cell 0
              have m1 : b5.cell? ⟨b3.heap.size, 1, none⟩ = some (.int .i64 y) := by simpa using hK5.cell 1
              have ml := hK5.lt
              have HK5 := Lib.hid hK5
              have hbr5 : Below wr.heap.size wr b5 := hc5
              clear k3 k4 hc3 he3 hc4 he4 q1 q2 f1 f2 hc5 he5 hK5 d1 d2
              cases hh : hasC xs x y with
              | true =>
                have HN : Hid (((sidesS (p, r)).take (j + 1)).foldl (extStep xs) F0 = F) := by show _ = F; rw [hstep]; unfold extStep; simp only [hh, if_true]
                have HH := Lib.hid hh
                clear hh hstep
                go_wp2_with fail
                refine (HasCell_s _ n c xs x y _ (HX.out.below hbr5) HL.out hnn).mono ?_
                rw [show hasC xs x y = true from HH.out]
                rintro e w2 ⟨rfl, hb2⟩
                have hb3 := bel_trans hbr5 hb2
                go_wp2_with fail
                exact ⟨⟨j + 1, gD, q, cq, hs, F, by omega, by go_num, rfl, HN.out.symm, HO.out.below hb3, HFI2.out, by have := HQF.out; omega, bel_trans hb hb3⟩, by simp [intOf]; omega⟩
              | false =>
                have HH := Lib.hid hh
                go_wp2_with fail
                refine (HasCell_s _ n c xs x y _ (HX.out.below hbr5) HL.out hnn).mono ?_
                rw [show hasC xs x y = false from HH.out]
                rintro e w2 ⟨rfl, hb2⟩
                have hb2r : Below wr.heap.size wr w2 := bel_trans hbr5 hb2
                have hCB := HK5.out.below hb2
                have z0 : w2.cell? ⟨b3.heap.size, 0, none⟩ = some (.int .i64 x) := by simpa using hCB.cell 0
                have z1 : w2.cell? ⟨b3.heap.size, 1, none⟩ = some (.int .i64 y) := by simpa using hCB.cell 1
                have zl := hCB.lt
                clear hCB m0 m1 ml
                go_wp2_with fail
                refine wp_region_rg 9 rfl (by kernel_rfl) ?_
                (refine rgT (i := 1) (v := ?_) rfl rfl (by kernel_rfl) (by kernel_rfl) (by kernel_rfl) (by rfl) (fun w' hcw => ?_) ?_; rotate_left; ((try dsimp only at hcw); have hbc := hcw.cells; go_simp; first | done | with_reducible rfl); simp only [List.setIfInBounds_toArray, List.set_cons_zero, List.set_cons_succ])
                (refine rgT (i := 3) (v := ?_) rfl rfl (by kernel_rfl) (by kernel_rfl) (by kernel_rfl) (by rfl) (fun w' hcw => ?_) ?_; rotate_left; ((try dsimp only at hcw); have hbc := hcw.cells; go_simp; first | done | with_reducible rfl); simp only [List.setIfInBounds_toArray, List.set_cons_zero, List.set_cons_succ])
                refine rgK_two (i := 0) (k := 4) (by kernel_rfl) rfl rfl rfl rfl (fun u0 hc0 he0 K hK => ?_) (fun u4 hc4 he4 K hK => ?_)
                · go_simp
                  refine hK _ _ (bel_alloc hc0 _) ?_
                  clear hK K
                  refine rgK_two (i := 2) (k := 4) (by kernel_rfl) rfl rfl rfl rfl (fun u2 hc2 he2 K hK => ?_) (fun u4 hc4 he4 K hK => ?_)
                  · refine wpC _ _ _ rfl w2.heap.size (some ⟨u0.heap.size, 0, none⟩) 0 0 [] rfl (own_keep (own_lit2 u0 hc0.size) he2) (some ⟨g, off, none⟩) n c xs rfl (HX.out.below (bel_trans hb2r hc2)) HL.out (by omega) (hc2.size) ?_
                    intro DD cD w3 ho3 hg3 hat3
                    have hx3 : Below w2.heap.size w2 w3 := bel_app hc2 hg3 (fun g h => by simp only [ob, Option.map_some, Option.some.injEq] at h; subst h; exact hc0.size)
                    refine hK _ _ hx3 ?_
                    clear hK K
                    simp only [Act.put, List.setIfInBounds_toArray, Nat.zero_add]
                    simp only [Nat.zero_add, List.nil_append] at ho3
                    have HOD := Lib.hid ho3
                    have HDL : Hid (∀ g, ob DD = some g → w2.heap.size ≤ g) := fun g e => (own_lt HOD.out g e).1
                    have hgu0 := hc0.size
                    clear ho3
                    refine rgK_one (i := 4) (by kernel_rfl) rfl rfl (fun u4 hc4 he4 K hK => ?_)
                    go_simp
                    refine hK _ _ (bel_alloc hc4 _) ?_
                    clear hK K
                    refine rgK_one (i := 5) (by kernel_rfl) rfl rfl (fun u5 hc5 he5 K hK => ?_)
                    refine wpC _ _ _ rfl w2.heap.size DD n cD xs rfl (own_keep (own_keep HOD.out (bel_trans he4 (bel_alloc (Below.refl _ _) _))) he5) _ 1 1 [(x, y)] rfl ((rd_newC u4 _ x y).below he5) rfl (by omega) (hc5.size) ?_
                    intro D2 c2 w5 ho5 hg5 _
                    have hx5 : Below w2.heap.size w2 w5 := bel_app hc5 hg5 (fun g h => HDL.out g h)
                    refine hK _ _ hx5 ?_
                    clear hK K
                    simp only [Act.put, List.setIfInBounds_toArray]
                    have HO5 := Lib.hid ho5
                    clear ho5 hg5
                    refine rgK_one (i := 6) (by kernel_rfl) rfl rfl (fun u6 hc6 he6 K hK => ?_)
                    go_simp
                    refine (SortCells_s D2 (n + 1) c2 (xs ++ [(x, y)]) _ (Rd.of_own (own_keep HO5.out he6)) (by simp [HL.out]) (by omega)).mono ?_
                    rintro e w6 ⟨E, m, cE, rfl, ho6, hb6⟩
                    have hx6 : Below w2.heap.size w2 w6 := bel_trans hc6 hb6
                    refine hK _ _ hx6 ?_
                    clear hK K
                    have hml : (sortC (xs ++ [(x, y)])).length = m := by have := own_len ho6; rw [vC_length] at this; omega
                    have hm9 : m ≤ 8 := by have := sortC_len (xs ++ [(x, y)]); rw [hml] at this; simp [HL.out] at this; omega
                    have HML6 := Lib.hid hml
                    have HO6 := Lib.hid ho6
                    clear ho6 hml
                    refine rgK_one (i := 7) (by kernel_rfl) rfl rfl (fun u7 hc7 he7 K hK => ?_)
                    go_simp
                    refine (l2Corner_s E m cE (sortC (xs ++ [(x, y)])) _ (Rd.of_own (own_keep HO6.out he7)) HML6.out (by omega) (fun d hd => HSM.out d ((sortC_mem _ _).1 hd))).mono ?_
                    rw [← corn_eq (s := xs ++ [(x, y)]) (by simp)]
                    rintro e w7 ⟨E2, m2, cE2, rfl, ho7, hb7⟩
                    have hx7 : Below w2.heap.size w2 w7 := bel_trans hc7 hb7
                    refine hK _ _ hx7 ?_
                    clear hK K
                    have HO7 := Lib.hid ho7
                    clear ho7
                    refine rgK_one (i := 8) (by kernel_rfl) rfl rfl (fun u8 hc8 he8 K hK => ?_)
                    go_simp
                    refine hK _ _ hc8 ?_
                    clear hK K
                    refine ⟨by kernel_rfl, fun wz hcz hez => NoPanic.normal ?_⟩
                    have HO9 := Lib.hid (own_keep (own_keep HO7.out he8) hez)
                    have hbz : Below w2.heap.size w2 wz := hcz
                    have hb39 : Below wr.heap.size wr wz := bel_trans hb2r hbz
                    have hb9 : Below w.heap.size w wz := bel_trans hb hb39
                    clear HO6 HO5 HO7 HML6 hx5 hc5 he5 hb6 hx6 hc6 he6 hc7 he7 hb7 hx7 hc8 he8 hcz hez
                    have hml : (cornI (xs ++ [(x, y)])).length = m2 := by have := own_len HO9.out; rw [vC_length] at this; omega
                    have hm13 : m2 ≤ 9 := by have := cornI_len (xs ++ [(x, y)]); rw [hml] at this; simp [HL.out] at this; omega
                    have hdef : extStep xs F (x, y) = if isShape (cornI (xs ++ [(x, y)])) then putG ltS F (cornI (xs ++ [(x, y)])) else F := by unfold extStep; simp only [hh, Bool.false_eq_true, if_false]
                    rw [hdef] at hstep
                    obtain ⟨s2, hs2⟩ : ∃ s2, cornI (xs ++ [(x, y)]) = s2 := ⟨_, rfl⟩
                    rw [hs2] at hml hstep HO9
                    have HML := Lib.hid hml
                    cases hsh : isShape s2 with
                    | true =>
                      rw [hsh, if_pos rfl] at hstep
                      have HSTEP := Lib.hid hstep
                      have HS2 := Lib.hid hsh
                      clear hstep hsh hml hs2 hdef hh
                      go_wp2_with fail
                      refine (IsShape_s E2 m2 cE2 s2 _ (Rd.of_own HO9.out) HML.out (by omega)).mono ?_
                      rw [HS2.out]
                      rintro e w8 ⟨rfl, hb8⟩
                      have HOF := Lib.hid (HO.out.below (bel_trans hb39 hb8))
                      have HOE := Lib.hid (own_keep HO9.out hb8)
                      go_wp2_with fail
                      refine (l3Put_s gD q cq hs F E2 m2 cE2 s2 w.heap.size _ HOF.out (CRow.of_own HOE.out) (fun x hx => by have := HFI2.out.len x hx; omega) (by omega) (by omega) (by have := hb9.size; have := hb8.size; omega)).mono ?_
                      rw [← HSTEP.out]
                      rintro e w9 ⟨gE, q3, c3, hs3, rfl, hO8, hb10⟩
                      have HO8 := Lib.hid hO8
                      have HFL8 : Hid ((((sidesS (p, r)).take (j + 1)).foldl (extStep xs) F0).length ≤ 4 * k + (j + 1)) := by
                        show _ ≤ _
                        rw [HSTEP.out]
                        have := putG_len (lt := ltS) F s2
                        have := HQF.out
                        omega
                      have HF8 : Hid (FineF (((sidesS (p, r)).take (j + 1)).foldl (extStep xs) F0)) := by show FineF _; rw [HSTEP.out]; exact HFI2.out.put HS2.out
                      clear hO8
                      go_wp2_with fail
                      exact ⟨⟨j + 1, gE, q3, c3, hs3, _, by omega, by go_num, rfl, rfl, HO8.out, HF8.out, HFL8.out, bel_trans hb9 (bel_trans hb8 hb10)⟩, by simp [intOf]; omega⟩
                    | false =>
                      rw [hsh] at hstep
                      have HSTEP : Hid (((sidesS (p, r)).take (j + 1)).foldl (extStep xs) F0 = F) := by show _ = F; rw [hstep]; rfl
                      have HS2 := Lib.hid hsh
                      clear hstep hsh hml hs2 hdef hh
                      go_wp2_with fail
                      refine (IsShape_s E2 m2 cE2 s2 _ (Rd.of_own HO9.out) HML.out (by omega)).mono ?_
                      rw [HS2.out]
                      rintro e w8 ⟨rfl, hb8⟩
                      go_wp2_with fail
                      exact ⟨⟨j + 1, gD, q, cq, hs, F, by omega, by go_num, rfl, HSTEP.out.symm, HO.out.below (bel_trans hb39 hb8), HFI2.out, by have := HQF.out; omega, bel_trans hb9 hb8⟩, by simp [intOf]; omega⟩
                  · go_simp
                    refine hK _ _ (bel_alloc hc4 _) ?_
                    clear hK K
                    refine rgK_one (i := 2) (by kernel_rfl) rfl rfl (fun u2 hc2 he2 K hK => ?_)
                    refine wpC _ _ _ rfl w2.heap.size (some ⟨u0.heap.size, 0, none⟩) 0 0 [] rfl (own_keep ((own_keep (own_lit2 u0 hc0.size) he4).alloc _) he2) (some ⟨g, off, none⟩) n c xs rfl (HX.out.below (bel_trans hb2r hc2)) HL.out (by omega) (hc2.size) ?_
                    intro DD cD w3 ho3 hg3 hat3
                    have hx3 : Below w2.heap.size w2 w3 := bel_app hc2 hg3 (fun g h => by simp only [ob, Option.map_some, Option.some.injEq] at h; subst h; exact hc0.size)
                    refine hK _ _ hx3 ?_
                    clear hK K
                    simp only [Act.put, List.setIfInBounds_toArray, Nat.zero_add]
                    simp only [Nat.zero_add, List.nil_append] at ho3
                    have HOD := Lib.hid ho3
                    have HDL : Hid (∀ g, ob DD = some g → w2.heap.size ≤ g) := fun g e => (own_lt HOD.out g e).1
                    have hgu0 := hc0.size
                    clear ho3
                    have hz4 := he4.size
                    simp only [World.size_alloc] at hz4
                    refine rgK_one (i := 5) (by kernel_rfl) rfl rfl (fun u5 hc5 he5 K hK => ?_)
                    refine wpC _ _ _ rfl w2.heap.size DD n cD xs rfl (own_keep HOD.out he5) _ 1 1 [(x, y)] rfl ((((rd_newC u4 _ x y).below he2).grown hg3 (fun g e r => by simp only [ob, Option.map_some, Option.some.injEq] at e r; omega)).below he5) rfl (by omega) (hc5.size) ?_
                    intro D2 c2 w5 ho5 hg5 _
                    have hx5 : Below w2.heap.size w2 w5 := bel_app hc5 hg5 (fun g h => HDL.out g h)
                    refine hK _ _ hx5 ?_
                    clear hK K
                    simp only [Act.put]
                    have HO5 := Lib.hid ho5
                    clear ho5 hg5
                    refine rgK_one (i := 6) (by kernel_rfl) rfl rfl (fun u6 hc6 he6 K hK => ?_)
                    go_simp
                    refine (SortCells_s D2 (n + 1) c2 (xs ++ [(x, y)]) _ (Rd.of_own (own_keep HO5.out he6)) (by simp [HL.out]) (by omega)).mono ?_
                    rintro e w6 ⟨E, m, cE, rfl, ho6, hb6⟩
                    have hx6 : Below w2.heap.size w2 w6 := bel_trans hc6 hb6
                    refine hK _ _ hx6 ?_
                    clear hK K
                    have hml : (sortC (xs ++ [(x, y)])).length = m := by have := own_len ho6; rw [vC_length] at this; omega
                    have hm9 : m ≤ 8 := by have := sortC_len (xs ++ [(x, y)]); rw [hml] at this; simp [HL.out] at this; omega
                    have HML6 := Lib.hid hml
                    have HO6 := Lib.hid ho6
                    clear ho6 hml
                    refine rgK_one (i := 7) (by kernel_rfl) rfl rfl (fun u7 hc7 he7 K hK => ?_)
                    go_simp
                    refine (l2Corner_s E m cE (sortC (xs ++ [(x, y)])) _ (Rd.of_own (own_keep HO6.out he7)) HML6.out (by omega) (fun d hd => HSM.out d ((sortC_mem _ _).1 hd))).mono ?_
                    rw [← corn_eq (s := xs ++ [(x, y)]) (by simp)]
                    rintro e w7 ⟨E2, m2, cE2, rfl, ho7, hb7⟩
                    have hx7 : Below w2.heap.size w2 w7 := bel_trans hc7 hb7
                    refine hK _ _ hx7 ?_
                    clear hK K
                    have HO7 := Lib.hid ho7
                    clear ho7
                    refine rgK_one (i := 8) (by kernel_rfl) rfl rfl (fun u8 hc8 he8 K hK => ?_)
                    go_simp
                    refine hK _ _ hc8 ?_
                    clear hK K
                    refine ⟨by kernel_rfl, fun wz hcz hez => NoPanic.normal ?_⟩
                    have HO9 := Lib.hid (own_keep (own_keep HO7.out he8) hez)
                    have hbz : Below w2.heap.size w2 wz := hcz
                    have hb39 : Below wr.heap.size wr wz := bel_trans hb2r hbz
                    have hb9 : Below w.heap.size w wz := bel_trans hb hb39
                    clear HO6 HO5 HO7 HML6 hx5 hc5 he5 hb6 hx6 hc6 he6 hc7 he7 hb7 hx7 hc8 he8 hcz hez
                    have hml : (cornI (xs ++ [(x, y)])).length = m2 := by have := own_len HO9.out; rw [vC_length] at this; omega
                    have hm13 : m2 ≤ 9 := by have := cornI_len (xs ++ [(x, y)]); rw [hml] at this; simp [HL.out] at this; omega
                    have hdef : extStep xs F (x, y) = if isShape (cornI (xs ++ [(x, y)])) then putG ltS F (cornI (xs ++ [(x, y)])) else F := by unfold extStep; simp only [hh, Bool.false_eq_true, if_false]
                    rw [hdef] at hstep
                    obtain ⟨s2, hs2⟩ : ∃ s2, cornI (xs ++ [(x, y)]) = s2 := ⟨_, rfl⟩
                    rw [hs2] at hml hstep HO9
                    have HML := Lib.hid hml
                    cases hsh : isShape s2 with
                    | true =>
                      rw [hsh, if_pos rfl] at hstep
                      have HSTEP := Lib.hid hstep
                      have HS2 := Lib.hid hsh
                      clear hstep hsh hml hs2 hdef hh
                      go_wp2_with fail
                      refine (IsShape_s E2 m2 cE2 s2 _ (Rd.of_own HO9.out) HML.out (by omega)).mono ?_
                      rw [HS2.out]
                      rintro e w8 ⟨rfl, hb8⟩
                      have HOF := Lib.hid (HO.out.below (bel_trans hb39 hb8))
                      have HOE := Lib.hid (own_keep HO9.out hb8)
                      go_wp2_with fail
                      refine (l3Put_s gD q cq hs F E2 m2 cE2 s2 w.heap.size _ HOF.out (CRow.of_own HOE.out) (fun x hx => by have := HFI2.out.len x hx; omega) (by omega) (by omega) (by have := hb9.size; have := hb8.size; omega)).mono ?_
                      rw [← HSTEP.out]
                      rintro e w9 ⟨gE, q3, c3, hs3, rfl, hO8, hb10⟩
                      have HO8 := Lib.hid hO8
                      have HFL8 : Hid ((((sidesS (p, r)).take (j + 1)).foldl (extStep xs) F0).length ≤ 4 * k + (j + 1)) := by
                        show _ ≤ _
                        rw [HSTEP.out]
                        have := putG_len (lt := ltS) F s2
                        have := HQF.out
                        omega
                      have HF8 : Hid (FineF (((sidesS (p, r)).take (j + 1)).foldl (extStep xs) F0)) := by show FineF _; rw [HSTEP.out]; exact HFI2.out.put HS2.out
                      clear hO8
                      go_wp2_with fail
                      exact ⟨⟨j + 1, gE, q3, c3, hs3, _, by omega, by go_num, rfl, rfl, HO8.out, HF8.out, HFL8.out, bel_trans hb9 (bel_trans hb8 hb10)⟩, by simp [intOf]; omega⟩
                    | false =>
                      rw [hsh] at hstep
                      have HSTEP : Hid (((sidesS (p, r)).take (j + 1)).foldl (extStep xs) F0 = F) := by show _ = F; rw [hstep]; rfl
                      have HS2 := Lib.hid hsh
                      clear hstep hsh hml hs2 hdef hh
                      go_wp2_with fail
                      refine (IsShape_s E2 m2 cE2 s2 _ (Rd.of_own HO9.out) HML.out (by omega)).mono ?_
                      rw [HS2.out]
                      rintro e w8 ⟨rfl, hb8⟩
                      go_wp2_with fail
                      exact ⟨⟨j + 1, gD, q, cq, hs, F, by omega, by go_num, rfl, HSTEP.out.symm, HO.out.below (bel_trans hb39 hb8), HFI2.out, by have := HQF.out; omega, bel_trans hb9 hb8⟩, by simp [intOf]; omega⟩
                · go_simp
                  refine hK _ _ (bel_alloc hc4 _) ?_
                  clear hK K
                  refine rgK_one (i := 0) (by kernel_rfl) rfl rfl (fun u0 hc0 he0 K hK => ?_)
                  go_simp
                  refine hK _ _ (bel_alloc hc0 _) ?_
                  clear hK K
                  refine rgK_one (i := 2) (by kernel_rfl) rfl rfl (fun u2 hc2 he2 K hK => ?_)
                  refine wpC _ _ _ rfl w2.heap.size (some ⟨u0.heap.size, 0, none⟩) 0 0 [] rfl (own_keep (own_lit2 u0 hc0.size) he2) (some ⟨g, off, none⟩) n c xs rfl (HX.out.below (bel_trans hb2r hc2)) HL.out (by omega) (hc2.size) ?_
                  intro DD cD w3 ho3 hg3 hat3
                  have hx3 : Below w2.heap.size w2 w3 := bel_app hc2 hg3 (fun g h => by simp only [ob, Option.map_some, Option.some.injEq] at h; subst h; exact hc0.size)
                  refine hK _ _ hx3 ?_
                  clear hK K
                  simp only [Act.put, List.setIfInBounds_toArray, Nat.zero_add]
                  simp only [Nat.zero_add, List.nil_append] at ho3
                  have HOD := Lib.hid ho3
                  have HDL : Hid (∀ g, ob DD = some g → w2.heap.size ≤ g) := fun g e => (own_lt HOD.out g e).1
                  have hgu0 := hc0.size
                  clear ho3
                  have hz0 := he0.size
                  simp only [World.size_alloc] at hz0
                  refine rgK_one (i := 5) (by kernel_rfl) rfl rfl (fun u5 hc5 he5 K hK => ?_)
                  refine wpC _ _ _ rfl w2.heap.size DD n cD xs rfl (own_keep HOD.out he5) _ 1 1 [(x, y)] rfl ((((((rd_newC u4 _ x y).below he0).alloc _).below he2).grown hg3 (fun g e r => by simp only [ob, Option.map_some, Option.some.injEq] at e r; omega)).below he5) rfl (by omega) (hc5.size) ?_
                  intro D2 c2 w5 ho5 hg5 _
                  have hx5 : Below w2.heap.size w2 w5 := bel_app hc5 hg5 (fun g h => HDL.out g h)
                  refine hK _ _ hx5 ?_
                  clear hK K
                  simp only [Act.put]
                  have HO5 := Lib.hid ho5
                  clear ho5 hg5
                  refine rgK_one (i := 6) (by kernel_rfl) rfl rfl (fun u6 hc6 he6 K hK => ?_)
                  go_simp
                  refine (SortCells_s D2 (n + 1) c2 (xs ++ [(x, y)]) _ (Rd.of_own (own_keep HO5.out he6)) (by simp [HL.out]) (by omega)).mono ?_
                  rintro e w6 ⟨E, m, cE, rfl, ho6, hb6⟩
                  have hx6 : Below w2.heap.size w2 w6 := bel_trans hc6 hb6
                  refine hK _ _ hx6 ?_
                  clear hK K
                  have hml : (sortC (xs ++ [(x, y)])).length = m := by have := own_len ho6; rw [vC_length] at this; omega
                  have hm9 : m ≤ 8 := by have := sortC_len (xs ++ [(x, y)]); rw [hml] at this; simp [HL.out] at this; omega
                  have HML6 := Lib.hid hml
                  have HO6 := Lib.hid ho6
                  clear ho6 hml
                  refine rgK_one (i := 7) (by kernel_rfl) rfl rfl (fun u7 hc7 he7 K hK => ?_)
                  go_simp
                  refine (l2Corner_s E m cE (sortC (xs ++ [(x, y)])) _ (Rd.of_own (own_keep HO6.out he7)) HML6.out (by omega) (fun d hd => HSM.out d ((sortC_mem _ _).1 hd))).mono ?_
                  rw [← corn_eq (s := xs ++ [(x, y)]) (by simp)]
                  rintro e w7 ⟨E2, m2, cE2, rfl, ho7, hb7⟩
                  have hx7 : Below w2.heap.size w2 w7 := bel_trans hc7 hb7
                  refine hK _ _ hx7 ?_
                  clear hK K
                  have HO7 := Lib.hid ho7
                  clear ho7
                  refine rgK_one (i := 8) (by kernel_rfl) rfl rfl (fun u8 hc8 he8 K hK => ?_)
                  go_simp
                  refine hK _ _ hc8 ?_
                  clear hK K
                  refine ⟨by kernel_rfl, fun wz hcz hez => NoPanic.normal ?_⟩
                  have HO9 := Lib.hid (own_keep (own_keep HO7.out he8) hez)
                  have hbz : Below w2.heap.size w2 wz := hcz
                  have hb39 : Below wr.heap.size wr wz := bel_trans hb2r hbz
                  have hb9 : Below w.heap.size w wz := bel_trans hb hb39
                  clear HO6 HO5 HO7 HML6 hx5 hc5 he5 hb6 hx6 hc6 he6 hc7 he7 hb7 hx7 hc8 he8 hcz hez
                  have hml : (cornI (xs ++ [(x, y)])).length = m2 := by have := own_len HO9.out; rw [vC_length] at this; omega
                  have hm13 : m2 ≤ 9 := by have := cornI_len (xs ++ [(x, y)]); rw [hml] at this; simp [HL.out] at this; omega
                  have hdef : extStep xs F (x, y) = if isShape (cornI (xs ++ [(x, y)])) then putG ltS F (cornI (xs ++ [(x, y)])) else F := by unfold extStep; simp only [hh, Bool.false_eq_true, if_false]
                  rw [hdef] at hstep
                  obtain ⟨s2, hs2⟩ : ∃ s2, cornI (xs ++ [(x, y)]) = s2 := ⟨_, rfl⟩
                  rw [hs2] at hml hstep HO9
                  have HML := Lib.hid hml
                  cases hsh : isShape s2 with
                  | true =>
                    rw [hsh, if_pos rfl] at hstep
                    have HSTEP := Lib.hid hstep
                    have HS2 := Lib.hid hsh
                    clear hstep hsh hml hs2 hdef hh
                    go_wp2_with fail
                    refine (IsShape_s E2 m2 cE2 s2 _ (Rd.of_own HO9.out) HML.out (by omega)).mono ?_
                    rw [HS2.out]
                    rintro e w8 ⟨rfl, hb8⟩
                    have HOF := Lib.hid (HO.out.below (bel_trans hb39 hb8))
                    have HOE := Lib.hid (own_keep HO9.out hb8)
                    go_wp2_with fail
                    refine (l3Put_s gD q cq hs F E2 m2 cE2 s2 w.heap.size _ HOF.out (CRow.of_own HOE.out) (fun x hx => by have := HFI2.out.len x hx; omega) (by omega) (by omega) (by have := hb9.size; have := hb8.size; omega)).mono ?_
                    rw [← HSTEP.out]
                    rintro e w9 ⟨gE, q3, c3, hs3, rfl, hO8, hb10⟩
                    have HO8 := Lib.hid hO8
                    have HFL8 : Hid ((((sidesS (p, r)).take (j + 1)).foldl (extStep xs) F0).length ≤ 4 * k + (j + 1)) := by
                      show _ ≤ _
                      rw [HSTEP.out]
                      have := putG_len (lt := ltS) F s2
                      have := HQF.out
                      omega
                    have HF8 : Hid (FineF (((sidesS (p, r)).take (j + 1)).foldl (extStep xs) F0)) := by show FineF _; rw [HSTEP.out]; exact HFI2.out.put HS2.out
                    clear hO8
                    go_wp2_with fail
                    exact ⟨⟨j + 1, gE, q3, c3, hs3, _, by omega, by go_num, rfl, rfl, HO8.out, HF8.out, HFL8.out, bel_trans hb9 (bel_trans hb8 hb10)⟩, by simp [intOf]; omega⟩
                  | false =>
                    rw [hsh] at hstep
                    have HSTEP : Hid (((sidesS (p, r)).take (j + 1)).foldl (extStep xs) F0 = F) := by show _ = F; rw [hstep]; rfl
                    have HS2 := Lib.hid hsh
                    clear hstep hsh hml hs2 hdef hh
                    go_wp2_with fail
                    refine (IsShape_s E2 m2 cE2 s2 _ (Rd.of_own HO9.out) HML.out (by omega)).mono ?_
                    rw [HS2.out]
                    rintro e w8 ⟨rfl, hb8⟩
                    go_wp2_with fail
                    exact ⟨⟨j + 1, gD, q, cq, hs, F, by omega, by go_num, rfl, HSTEP.out.symm, HO.out.below (bel_trans hb39 hb8), HFI2.out, by have := HQF.out; omega, bel_trans hb9 hb8⟩, by simp [intOf]; omega⟩
            · obtain rfl : j = 4 := by omega
              have HN : Hid (extTo sidesS xs (k + 1) = F) := by show _ = F; rw [HST.out, hF]; rfl
              rw [← HN.out] at hO
              have HO := Lib.hid hO
              clear hO hF
              go_wp2_with fail
              exact ⟨⟨k + 1, gD, q, cq, hs, by omega, by go_num, rfl, HO.out, hb⟩, by simp [intOf]; omega⟩
        · obtain rfl : k = n := by omega
          rw [← HV.out] at hO
          have HO := Lib.hid hO
          have hk1 : ¬ (k : Int) < (k : Int) := by omega
          clear hO
          go_wp2
          go_ret
          exact ⟨gD, q, cq, hs, rfl, HO.out, hb⟩
end Go.Proofs.Ytglilkneipfheaa

/- The places around a shape: the reference. -/
namespace Go.Proofs.Ytglilkneipfheaa
open Go.RowKit
set_option linter.unusedVariables false
attribute [local go_sem ↓] Go.wp_at_zero Go.wp_at_succ

set_option maxRecDepth 100000 in
set_option maxHeartbeats 6400000 in
theorem NeighbourCells_s (A : Option Addr) (n c : Nat) (xs : List C) (w : World) (hr : Rd w A (vC xs)) (hl : xs.length = n) (hs : isShape xs = true) :
    Calls Try.prog 96 #[.slice A n c] w (Ret w (.int .i64 (nbN xs))) := by
  have hn8 := (shape_len hs).2
  have hV : nbN xs = ((nbTo sidesS xs n).length : Nat) := by unfold nbN; rw [if_pos hs, hl]
  have HV := Lib.hid hV
  have HL := Lib.hid hl
  have HR := Lib.hid hr
  have HSH := Lib.hid hs
  rw [hl] at hn8
  have hnn : n ≤ 1099511627776 := by omega
  clear hl hr hs hV
  go_enter Try.func96, Try.ntmps96
  go_wp2_with fail
  refine (IsShape_s A n c xs _ HR.out HL.out hnn).mono ?_
  rw [HSH.out]
  rintro e w1 ⟨rfl, hb1⟩
  have HI1 := Lib.hid (own_lit2 w1 hb1.size)
  have hbw1 : Below w.heap.size w (w1.alloc (.cells #[] 59)) := bel_alloc hb1 _
  go_wp2_with fail
  go_loopw [4, 3] (fun e4 e3 wr => ∃ (k q cq : Nat) (D : Option Addr), k ≤ n ∧ e4 = .int .i64 k ∧ e3 = .slice D q cq ∧ wr.ownsRow w.heap.size 59 2 (.slice D q cq) q (vC (nbTo sidesS xs k)) ∧ Below w.heap.size w wr) (fun e4 _ _ => n - (intOf e4).toNat)
  case atStart => exact ⟨0, 0, 0, _, Nat.zero_le _, rfl, rfl, HI1.out, hbw1⟩
  case round =>
    clear HI1 hbw1 hb1
    obtain ⟨k, q, cq, D, hk, rfl, rfl, hO, hb⟩ := hrel
    have hql : (nbTo sidesS xs k).length = q := by have := own_len hO; rw [vC_length] at this; omega
    by_cases hlt : k < n
    · have hkl : k < xs.length := by rw [HL.out]; exact hlt
      have hk0 : (0 : Int) ≤ (k : Int) := by omega
      have hk1 : (k : Int) < (n : Int) := by omega
      have hon := shape_onB HSH.out _ (List.getElem_mem hkl)
      have hst := nbTo_succ sidesS xs k hkl
      have hsl := nbTo_len sidesS (fun _ => rfl) xs k (by omega)
      obtain ⟨p, hp⟩ : ∃ p, xs[k].1 = p := ⟨_, rfl⟩
      obtain ⟨r, hrr⟩ : ∃ r, xs[k].2 = r := ⟨_, rfl⟩
      rw [show xs[k] = (p, r) from Prod.ext hp hrr] at hon hst
      have hpr : 0 ≤ p ∧ p ≤ 7 ∧ 0 ≤ r ∧ r ≤ 7 := by simp [onB] at hon; omega
      obtain ⟨F0, hF0⟩ : ∃ F0, nbTo sidesS xs k = F0 := ⟨_, rfl⟩
      rw [hF0] at hst hsl hO hql
      have HST := Lib.hid hst
      have HO := Lib.hid hO
      have HP := Lib.hid hp
      have HRR := Lib.hid hrr
      have HPR := Lib.hid hpr
      have HQL := Lib.hid hql
      clear hst hO hp hrr hon hF0 hpr hql
      go_wp2_with fail
      go_loopw [5, 3] (fun e5 e3 wr => ∃ (j q cq : Nat) (D : Option Addr) (F : List C), j ≤ 4 ∧ e5 = .int .i64 j ∧ e3 = .slice D q cq ∧ F = ((sidesS (p, r)).take j).foldl (nbStep xs) F0 ∧ wr.ownsRow w.heap.size 59 2 (.slice D q cq) q (vC F) ∧ F.length ≤ 4 * k + j ∧ Below w.heap.size w wr) (fun e5 _ _ => 4 - (intOf e5).toNat)
      case atStart => exact ⟨0, q, cq, D, F0, Nat.zero_le _, rfl, rfl, rfl, HO.out, by omega, hb⟩
      case round =>
        clear HO hb hsl HQL
        obtain ⟨j, q, cq, D, F, hj, rfl, rfl, hF, hO, hfl, hb⟩ := hrel
        have hql : F.length = q := by have := own_len hO; rw [vC_length] at this; omega
        by_cases hj4 : j < 4
        · have hjl : j < (sidesS (p, r)).length := hj4
          have hj0 : (0 : Int) ≤ (j : Int) := by omega
          have hj1 : (j : Int) < 4 := by omega
          have hstep : ((sidesS (p, r)).take (j + 1)).foldl (nbStep xs) F0 = nbStep xs F (sidesS (p, r))[j] := by
            rw [List.take_succ_eq_append_getElem hjl, List.foldl_append, ← hF]
            rfl
          obtain ⟨da, db, e1, e2, hd1, hd2, hab⟩ : ∃ da db : Int, ((1 : Int) - (j : Int)).tmod 2 = da ∧ ((2 : Int) - (j : Int)).tmod 2 = db ∧ (-1 ≤ da ∧ da ≤ 1) ∧ (-1 ≤ db ∧ db ≤ 1) ∧ (sidesS (p, r))[j] = (p + da, r + db) := by
            rcases (by omega : j = 0 ∨ j = 1 ∨ j = 2 ∨ j = 3) with rfl | rfl | rfl | rfl
            · exact ⟨1, 0, by decide, by decide, by omega, by omega, by simp [sidesS]⟩
            · exact ⟨0, 1, by decide, by decide, by omega, by omega, by simp [sidesS]⟩
            · exact ⟨-1, 0, by decide, by decide, by omega, by omega, by simp [sidesS]; omega⟩
            · exact ⟨0, -1, by decide, by decide, by omega, by omega, by simp [sidesS]; omega⟩
          have hpr := HPR.out
          obtain ⟨x, hx⟩ : ∃ x, p + da = x := ⟨_, rfl⟩
          obtain ⟨y, hy⟩ : ∃ y, r + db = y := ⟨_, rfl⟩
          rw [hab, hx, hy] at hstep
          have v1 : IntKind.i64.wrap ((1 : Int) - (j : Int)) = (1 : Int) - (j : Int) := Go.IntWalk.i64_in _ (by omega)
          have v2 : IntKind.i64.wrap ((2 : Int) - (j : Int)) = (2 : Int) - (j : Int) := Go.IntWalk.i64_in _ (by omega)
          have v3 : IntKind.i64.wrap x = x := Go.IntWalk.i64_in _ (by omega)
          have v4 : IntKind.i64.wrap y = y := Go.IntWalk.i64_in _ (by omega)
          have v5 : IntKind.i64.wrap da = da := Go.IntWalk.i64_in _ (by omega)
          have v6 : IntKind.i64.wrap db = db := Go.IntWalk.i64_in _ (by omega)
          have HO := Lib.hid hO
          have HX := Lib.hid (HR.out.below hb)
          have HQF := Lib.hid hql
          have hq33 : q ≤ 4 * k + j := by rw [← hql]; exact hfl
          obtain ⟨g, off, hA, hg, d1, d2⟩ := RdC.at_ (HR.out.below hb) hkl
          subst hA
          rw [HP.out] at d1
          rw [HRR.out] at d2
          clear hF hO hab hd1 hd2 hpr hql hfl
          cases hh : hasC xs x y with
          | true =>
            have HN : Hid (((sidesS (p, r)).take (j + 1)).foldl (nbStep xs) F0 = F) := by show _ = F; rw [hstep]; unfold nbStep; simp only [hh, if_true]
            have HH := Lib.hid hh
            clear hh hstep
            go_wp2_with fail
            refine (HasCell_s _ n c xs x y _ HX.out HL.out hnn).mono ?_
            rw [HH.out]
            rintro e w2 ⟨rfl, hb2⟩
            have HO2 := Lib.hid (own_keep HO.out hb2)
            go_wp2_with fail
            exact ⟨⟨j + 1, q, cq, D, F, by omega, by go_num, rfl, HN.out.symm, HO2.out, by rw [HQF.out]; omega, bel_trans hb hb2⟩, by simp [intOf]; omega⟩
          | false =>
            cases hm : hasC F x y with
            | true =>
              have HN : Hid (((sidesS (p, r)).take (j + 1)).foldl (nbStep xs) F0 = F) := by show _ = F; rw [hstep]; unfold nbStep; simp only [hh, hm, if_true, Bool.false_eq_true, if_false]
              have HH := Lib.hid hh
              have HM := Lib.hid hm
              clear hh hm hstep
              go_wp2_with fail
              refine (HasCell_s _ n c xs x y _ HX.out HL.out hnn).mono ?_
              rw [HH.out]
              rintro e w2 ⟨rfl, hb2⟩
              have HO2 := Lib.hid (own_keep HO.out hb2)
              go_wp2_with fail
              refine (HasCell_s D q cq F x y _ (Rd.of_own HO2.out) HQF.out (by omega)).mono ?_
              rw [HM.out]
              rintro e w3 ⟨rfl, hb3⟩
              have HO3 := Lib.hid (own_keep HO2.out hb3)
              go_wp2_with fail
              exact ⟨⟨j + 1, q, cq, D, F, by omega, by go_num, rfl, HN.out.symm, HO3.out, by rw [HQF.out]; omega, bel_trans hb (bel_trans hb2 hb3)⟩, by simp [intOf]; omega⟩
            | false =>
              have HN : Hid (((sidesS (p, r)).take (j + 1)).foldl (nbStep xs) F0 = F ++ [(x, y)]) := by show _ = F ++ _; rw [hstep]; unfold nbStep; simp only [hh, hm, Bool.false_eq_true, if_false]
              have HH := Lib.hid hh
              have HM := Lib.hid hm
              clear hh hm hstep
              go_wp2_with fail
              refine (HasCell_s _ n c xs x y _ HX.out HL.out hnn).mono ?_
              rw [HH.out]
              rintro e w2 ⟨rfl, hb2⟩
              have HO2 := Lib.hid (own_keep HO.out hb2)
              go_wp2_with fail
              refine (HasCell_s D q cq F x y _ (Rd.of_own HO2.out) HQF.out (by omega)).mono ?_
              rw [HM.out]
              rintro e w3 ⟨rfl, hb3⟩
              have HO3 := Lib.hid (own_keep HO2.out hb3)
              have hbx : Below w.heap.size w w3 := bel_trans hb (bel_trans hb2 hb3)
              have hbz := hbx.size
              go_wp2_with (at_builtin; go_must (refine app_C _ rfl _ _ rfl w.heap.size D q cq F rfl (HO3.out.alloc _) _ _ _ [(x, y)] rfl (rd_newC _ _ _ _) rfl (by omega) (by simp; omega) ?_); intro D2 c2 w5 ho5 hg5 _; have HO5 := Lib.hid ho5; have hx5 : Below w.heap.size w w5 := bel_app (bel_alloc hbx _) hg5 (fun g h => (own_lt HO3.out g h).1); clear ho5 hg5)
              exact ⟨⟨j + 1, q + 1, c2, D2, F ++ [(x, y)], by omega, by go_num, rfl, HN.out.symm, HO5.out, by rw [List.length_append, HQF.out]; simp; omega, hx5⟩, by simp [intOf]; omega⟩
        · obtain rfl : j = 4 := by omega
          have hFe : F = nbTo sidesS xs (k + 1) := by rw [HST.out, hF]; rfl
          rw [hFe] at hO
          have HO := Lib.hid hO
          clear hF hO hFe
          go_wp2_with fail
          exact ⟨⟨k + 1, q, cq, D, by omega, by go_num, rfl, HO.out, hb⟩, by simp [intOf]; omega⟩
    · obtain rfl : k = n := by omega
      have HO := Lib.hid hO
      have HQ := Lib.hid hql
      have hk1 : ¬ (k : Int) < (k : Int) := by omega
      clear hO hql
      go_wp2_with fail
      go_ret
      exact ⟨by rw [HV.out, HQ.out]; rfl, hb⟩
end Go.Proofs.Ytglilkneipfheaa

/-
  DERIVED: THE SHELF's CONTRACTS AT THIS DUMP, IN PLAIN WORDS (tools/lay-plain.mjs out of 'TryShelf.lean', which tools/lay-shelf.mjs wrote): THE SAME DECLARATIONS UNDER THE SAME NAMES: 'import', 'namespace', 'open', 'def', 'theorem' AND NOTHING ELSE: no command of the shelf's: FOR A HAND-IN. Each laying: the table of numbers ('.._ren') and one theorem, a field a fact of the dump's own or the kernel's comparison; each contract: ONE APPLICATION.
-/
namespace Go.Proofs
open Go.Shelf
def Try.laysGg6_ren : Go.Shelf.Ren := ⟨fun | 6 => 83 | 10 => 115 | 11 => 116 | 12 => 117 | 13 => 118 | 14 => 119 | 24 => 139 | 25 => 140 | 26 => 141 | 27 => 142 | 28 => 143 | 29 => 144 | 30 => 145 | 31 => 146 | 32 => 147 | 33 => 148 | 34 => 156 | 35 => 157 | 36 => 158 | 37 => 159 | 38 => 160 | 39 => 171 | n => n, fun | 20 => 20 | 26 => 71 | 35 => 93 | 0 => 0 | 37 => 95 | 3 => 3 | 41 => 77 | 44 => 101 | 49 => 115 | 51 => 117 | 4 => 4 | 54 => 120 | 53 => 119 | 58 => 124 | 5 => 5 | 9 => 9 | 60 => 129 | 64 => 133 | 66 => 143 | 67 => 49 | 17 => 17 | 32 => 90 | 33 => 91 | 82 => 163 | 12 => 12 | 75 => 156 | 76 => 157 | 77 => 158 | 78 => 159 | 79 => 160 | 80 => 161 | n => n, fun | n => n⟩
theorem Try.laysGg6 : Go.Proofs.LaysGg.n6 Try.prog Try.laysGg6_ren := {
  mixed := by kernel_rfl
  f6 := Try.func83.trans (congrArg some (by kernel_rfl))
  f10 := Try.func115.trans (congrArg some (by kernel_rfl))
  f11 := Try.func116.trans (congrArg some (by kernel_rfl))
  f12 := Try.func117.trans (congrArg some (by kernel_rfl))
  f13 := Try.func118.trans (congrArg some (by kernel_rfl))
  f14 := Try.func119.trans (congrArg some (by kernel_rfl))
  f24 := Try.func139.trans (congrArg some (by kernel_rfl))
  f25 := Try.func140.trans (congrArg some (by kernel_rfl))
  f26 := Try.func141.trans (congrArg some (by kernel_rfl))
  f27 := Try.func142.trans (congrArg some (by kernel_rfl))
  f28 := Try.func143.trans (congrArg some (by kernel_rfl))
  f29 := Try.func144.trans (congrArg some (by kernel_rfl))
  f30 := Try.func145.trans (congrArg some (by kernel_rfl))
  f31 := Try.func146.trans (congrArg some (by kernel_rfl))
  f32 := Try.func147.trans (congrArg some (by kernel_rfl))
  f33 := Try.func148.trans (congrArg some (by kernel_rfl))
  f34 := Try.func156.trans (congrArg some (by kernel_rfl))
  f35 := Try.func157.trans (congrArg some (by kernel_rfl))
  f36 := Try.func158.trans (congrArg some (by kernel_rfl))
  f37 := Try.func159.trans (congrArg some (by kernel_rfl))
  f38 := Try.func160.trans (congrArg some (by kernel_rfl))
  f39 := Try.func171.trans (congrArg some (by kernel_rfl))
  t0 := Try.underlying0
  a0 := Try.isAgg0
  z0 := Try.sizeOf0
  v0 := Try.zeroValue0
  i0 := by kernel_rfl
  t3 := Try.underlying3
  a3 := Try.isAgg3
  z3 := Try.sizeOf3
  v3 := Try.zeroValue3
  i3 := by kernel_rfl
  t4 := Try.underlying4
  a4 := Try.isAgg4
  z4 := Try.sizeOf4
  v4 := Try.zeroValue4
  i4 := by kernel_rfl
  t5 := Try.underlying5
  a5 := Try.isAgg5
  z5 := Try.sizeOf5
  v5 := Try.zeroValue5
  i5 := by kernel_rfl
  t9 := Try.underlying9
  a9 := Try.isAgg9
  z9 := Try.sizeOf9
  v9 := Try.zeroValue9
  i9 := by kernel_rfl
  t12 := Try.underlying12
  a12 := Try.isAgg12
  z12 := Try.sizeOf12
  v12 := Try.zeroValue12
  i12 := by kernel_rfl
  t17 := Try.underlying17
  a17 := Try.isAgg17
  z17 := Try.sizeOf17
  v17 := Try.zeroValue17
  i17 := by kernel_rfl
  t20 := Try.underlying20
  a20 := Try.isAgg20
  z20 := Try.sizeOf20
  v20 := Try.zeroValue20
  i20 := by kernel_rfl
  t26 := Try.underlying71
  a26 := Try.isAgg71
  z26 := Try.sizeOf71
  v26 := Try.zeroValue71
  i26 := by kernel_rfl
  t32 := Try.underlying90
  a32 := Try.isAgg90
  z32 := Try.sizeOf90
  v32 := Try.zeroValue90
  i32 := by kernel_rfl
  t33 := Try.underlying91
  a33 := Try.isAgg91
  z33 := Try.sizeOf91
  v33 := Try.zeroValue91
  i33 := by kernel_rfl
  t35 := Try.underlying93
  a35 := Try.isAgg93
  z35 := Try.sizeOf93
  v35 := Try.zeroValue93
  i35 := by kernel_rfl
  t37 := Try.underlying95
  a37 := Try.isAgg95
  z37 := Try.sizeOf95
  v37 := Try.zeroValue95
  i37 := by kernel_rfl
  t41 := Try.underlying77
  a41 := Try.isAgg77
  z41 := Try.sizeOf77
  v41 := Try.zeroValue77
  i41 := by kernel_rfl
  t44 := Try.underlying101
  a44 := Try.isAgg101
  z44 := Try.sizeOf101
  v44 := Try.zeroValue101
  i44 := by kernel_rfl
  t49 := Try.underlying115
  a49 := Try.isAgg115
  z49 := Try.sizeOf115
  v49 := Try.zeroValue115
  i49 := by kernel_rfl
  t51 := Try.underlying117
  a51 := Try.isAgg117
  z51 := Try.sizeOf117
  v51 := Try.zeroValue117
  i51 := by kernel_rfl
  t53 := Try.underlying119
  a53 := Try.isAgg119
  z53 := Try.sizeOf119
  v53 := Try.zeroValue119
  i53 := by kernel_rfl
  t54 := Try.underlying120
  a54 := Try.isAgg120
  z54 := Try.sizeOf120
  v54 := Try.zeroValue120
  i54 := by kernel_rfl
  t58 := Try.underlying124
  a58 := Try.isAgg124
  z58 := Try.sizeOf124
  v58 := Try.zeroValue124
  i58 := by kernel_rfl
  t60 := Try.underlying129
  a60 := Try.isAgg129
  z60 := Try.sizeOf129
  v60 := Try.zeroValue129
  i60 := by kernel_rfl
  t64 := Try.underlying133
  a64 := Try.isAgg133
  z64 := Try.sizeOf133
  v64 := Try.zeroValue133
  i64 := by kernel_rfl
  t66 := Try.underlying143
  a66 := Try.isAgg143
  z66 := Try.sizeOf143
  v66 := Try.zeroValue143
  i66 := by kernel_rfl
  t67 := Try.underlying49
  a67 := Try.isAgg49
  z67 := Try.sizeOf49
  v67 := Try.zeroValue49
  i67 := by kernel_rfl
  t75 := Try.underlying156
  a75 := Try.isAgg156
  z75 := Try.sizeOf156
  v75 := Try.zeroValue156
  i75 := by kernel_rfl
  t76 := Try.underlying157
  a76 := Try.isAgg157
  z76 := Try.sizeOf157
  v76 := Try.zeroValue157
  i76 := by kernel_rfl
  t77 := Try.underlying158
  a77 := Try.isAgg158
  z77 := Try.sizeOf158
  v77 := Try.zeroValue158
  i77 := by kernel_rfl
  t78 := Try.underlying159
  a78 := Try.isAgg159
  z78 := Try.sizeOf159
  v78 := Try.zeroValue159
  i78 := by kernel_rfl
  t79 := Try.underlying160
  a79 := Try.isAgg160
  z79 := Try.sizeOf160
  v79 := Try.zeroValue160
  i79 := by kernel_rfl
  t80 := Try.underlying161
  a80 := Try.isAgg161
  z80 := Try.sizeOf161
  v80 := Try.zeroValue161
  i80 := by kernel_rfl
  t82 := Try.underlying163
  a82 := Try.isAgg163
  z82 := Try.sizeOf163
  v82 := Try.zeroValue163
  i82 := by kernel_rfl }
end Go.Proofs

/- Cells put in order: the library's sort at twelve cells or fewer, with the program's own test. -/
namespace Go.Proofs.Ytglilkneipfheaa
open Go.RowKit Go.Shelf
set_option linter.unusedVariables false
attribute [local go_sem ↓] Go.wp_at_zero Go.wp_at_succ

theorem sto_default (l : List C) {i : Nat} (h : i < l.length) : l.getD i default = l[i] := getD_in l h
set_option maxHeartbeats 800000 in
/-- The test: does cell i come before cell j? -/
theorem lessCells (Bs base g n c : Nat) (l : List C) (i j : Nat) (w : World) (ho : w.ownsRow base 59 2 (.slice (some ⟨g, 0, none⟩) n c) n (vC l)) (hB : w.cell? ⟨Bs, 0, none⟩ = some (.slice (some ⟨g, 0, none⟩) n c)) (hi : i < n) (hj : j < n) (b : Bool)
    (hb : b = befC (l.getD i default) (l.getD j default)) : Calls Try.prog 84 #[.int .i64 (i : Int), .int .i64 (j : Int), .pointer (some ⟨Bs, 0, none⟩)] w (Ret w (.bool b)) := by
  have hl : l.length = n := by have := own_len ho; rw [vC_length] at this; omega
  have hg := (own_lt ho g rfl).2
  obtain ⟨g1, o1, e1, _, a1, a2⟩ := RdC.at_ (Rd.of_own ho) (show i < l.length by omega)
  obtain ⟨g2, o2, e2, _, b1, b2⟩ := RdC.at_ (Rd.of_own ho) (show j < l.length by omega)
  simp only [Option.some.injEq, Addr.mk.injEq, and_true] at e1 e2
  obtain ⟨rfl, rfl⟩ := e1
  obtain ⟨h1, rfl⟩ := e2
  rw [Nat.zero_add] at a1 a2 b1 b2
  rw [← h1] at b1 b2
  rw [sto_default l (by omega), sto_default l (by omega)] at hb
  obtain ⟨x, hx⟩ : ∃ x, l[i].1 = x := ⟨_, rfl⟩
  obtain ⟨y, hy⟩ : ∃ y, l[i].2 = y := ⟨_, rfl⟩
  obtain ⟨p, hp⟩ : ∃ p, l[j].1 = p := ⟨_, rfl⟩
  obtain ⟨q, hq⟩ : ∃ q, l[j].2 = q := ⟨_, rfl⟩
  rw [show l[i] = (x, y) from Prod.ext hx hy, show l[j] = (p, q) from Prod.ext hp hq] at hb
  rw [hx] at a1
  rw [hy] at a2
  rw [hp] at b1
  rw [hq] at b2
  have HV := Lib.hid hb.symm
  have hBl := World.block_lt_of_cell? w _ hB
  have hi0 : (0 : Int) ≤ (i : Int) := by omega
  have hi1 : (i : Int) < (n : Int) := by omega
  have hj0 : (0 : Int) ≤ (j : Int) := by omega
  have hj1 : (j : Int) < (n : Int) := by omega
  clear ho hx hy hp hq hb h1 hl
  go_enter Try.func84, Try.ntmps84
  go_wp2_with fail
  (refine wp_region_below (by kernel_rfl) (by kernel_rfl) ?_; (repeat (first | go_big_quiet_skip | (refine quietV (v := ?_) (by rfl) rfl (fun w' hbw => ?_) ?_; rotate_left; ((try dsimp only at hbw); have hbc := (bcell hbw).1; have hbf := (bcell hbw).2; go_simp; first | done | with_reducible rfl | exact callsBB (before_i x y p q _) HV.out hbw); simp only [List.setIfInBounds_toArray, List.set_cons_zero, List.set_cons_succ]))); refine wpQuiet_nil ?_; intro wq hbq)
  go_wp2_with fail
  go_ret
  exact ⟨rfl, hbq⟩
theorem own_put {w : World} {base g n c : Nat} {l : List C} (ho : w.ownsRow base 59 2 (.slice (some ⟨g, 0, none⟩) n c) n (vC l)) (k : Nat) (v : C) :
    (w.setCells g (0 + k * 2) [.int .i64 v.1, .int .i64 v.2]).ownsRow base 59 2 (.slice (some ⟨g, 0, none⟩) n c) n (vC (l.set k v)) := by
  have h := ((ho.stored (k * 2) (.int .i64 v.1)).1.stored (k * 2 + 1) (.int .i64 v.2)).1
  rw [vC_set_list] at h
  rw [Nat.zero_add]
  exact h
theorem grown_alloc1 {w w' : World} {o : Obj} {row : Option Nat} (h : (w.alloc o).grownBy w' row) : w.grownBy w' row :=
  ⟨h.os, h.tape, h.output, by have := h.size; simp at this; omega, fun k hk hne => (h.block k (by simp; omega) hne).trans (Below.heap_alloc w o k hk)⟩
theorem grown_of_alloc (w : World) (o : Obj) (r : Option Nat) : w.grownBy (w.alloc o) r := ⟨rfl, rfl, rfl, by simp, fun k hk _ => Below.heap_alloc w o k hk⟩
theorem grown_cells {a w : World} {g o : Nat} (h : a.grownBy w (some g)) (x y : Value) : a.grownBy (w.setCells g o [x, y]) (some g) := grown_set (grown_set h rfl x) rfl y
theorem infoCI : ∃ ie, Try.prog.info? 59 = some ie ∧ ie.size = 2 := by
  obtain ⟨i0, hi, _, hz1, _⟩ := info_parts infoC
  exact ⟨i0, hi, hz1⟩
theorem swapCells (sf : Nat) (gS : Bool) (hx : ∀ args W, (callFunc sf args).run Try.prog W = ((Extern.ReflectliteSwapper.swap gS args).run Try.prog W).andThen fun v w' => .ok (.value v) w') (hagg : ∀ w, (isAgg 59).run Try.prog w = .ok true w)
    (base g n c : Nat) (l : List C) (i j : Nat) (w : World) (ho : w.ownsRow base 59 2 (.slice (some ⟨g, 0, none⟩) n c) n (vC l)) (hi : i < n) (hj : j < n) :
    ∃ w', (callFunc sf #[.int .i64 (i : Int), .int .i64 (j : Int), .slice (some ⟨g, 0, none⟩) n c, typeHandle Try.prog 59]).run Try.prog w = .ok (.value (.tuple #[])) w' ∧
      w'.ownsRow base 59 2 (.slice (some ⟨g, 0, none⟩) n c) n (vC (swL l i j)) ∧ ∀ a, World.grownBy a w (some g) → World.grownBy a w' (some g) := by
  have hl : l.length = n := by have := own_len ho; rw [vC_length] at this; omega
  obtain ⟨ie, hie, hsz⟩ := infoCI
  have hcell : ∀ k (hk : k < n), ∀ u v, ([.int .i64 (l.getD k default).1, .int .i64 (l.getD k default).2] : List Value)[u]? = some v → w.cell? ⟨g, 0 + k * 2 + u, none⟩ = some v := by
    intro k hk u v h
    obtain ⟨g1, o1, e1, _, a1, a2⟩ := RdC.at_ (Rd.of_own ho) (show k < l.length by omega)
    simp only [Option.some.injEq, Addr.mk.injEq, and_true] at e1
    obtain ⟨rfl, rfl⟩ := e1
    rw [sto_default l (by omega)] at h
    match u, h with
    | 0, h => simp at h; rw [← h]; exact a1
    | 1, h => simp at h; rw [← h]; exact a2
    | u + 2, h => simp at h
  have hfro : ∀ o, w.frozen? ⟨g, o, none⟩ = false := fun o => ho.frozenAt o
  have hr := Lib.run_swap_cells (P := Try.prog) gS 59 ie hie hagg g 0 n c i j hi hj [.int .i64 (l.getD i default).1, .int .i64 (l.getD i default).2] [.int .i64 (l.getD j default).1, .int .i64 (l.getD j default).2]
    (by rw [hsz]; rfl) (by rw [hsz]; rfl) (by simp [Value.oneCell']) (by simp [Value.oneCell']) w (by rw [hsz]; exact hcell i hi) (by rw [hsz]; exact hcell j hj) (fun k _ => hfro _) (fun k _ => hfro _)
  rw [hsz] at hr
  refine ⟨_, ?_, own_put (own_put ho i (l.getD j default)) j (l.getD i default), fun a h => grown_cells (grown_cells h _ _) _ _⟩
  rw [hx, hr]
  rfl
/-- The row in order. -/
def SrtP (w : World) (base g n c : Nat) (l : List C) (e : Ending) (w' : World) : Prop :=
  e = .returned (.tuple #[]) ∧ ∃ l', l'.length = n ∧ (∀ x, x ∈ l' ↔ x ∈ l) ∧ l'.Pairwise (fun a b => befC b a = false) ∧ w'.ownsRow base 59 2 (.slice (some ⟨g, 0, none⟩) n c) n (vC l') ∧ w.grownBy w' (some g)
/-- What is asked of the exchange. -/
def Swaps (sf : Nat) (th : Value) (base g n c : Nat) : Prop := ∀ (w : World) (l : List C) (i j : Nat), w.ownsRow base 59 2 (.slice (some ⟨g, 0, none⟩) n c) n (vC l) → i < n → j < n →
  ∃ w', (callFunc sf #[.int .i64 (i : Int), .int .i64 (j : Int), .slice (some ⟨g, 0, none⟩) n c, th]).run Try.prog w = .ok (.value (.tuple #[])) w' ∧
      w'.ownsRow base 59 2 (.slice (some ⟨g, 0, none⟩) n c) n (vC (swL l i j)) ∧ ∀ a, World.grownBy a w (some g) → World.grownBy a w' (some g)
set_option maxHeartbeats 3200000 in
theorem insSort (sf : Nat) (th : Value) (Bs base g n c : Nat) (hsw : Swaps sf th base g n c) (l0 : List C) (w : World) (ho : w.ownsRow base 59 2 (.slice (some ⟨g, 0, none⟩) n c) n (vC l0)) (hB : w.cell? ⟨Bs, 0, none⟩ = some (.slice (some ⟨g, 0, none⟩) n c)) (hBg : Bs ≠ g) (hn : 1 ≤ n) (hn12 : n ≤ 12) :
    Calls Try.prog 141 #[.agg #[.func (.func 84) #[] #[.pointer (some ⟨Bs, 0, none⟩)], .func (.func sf) #[] #[.slice (some ⟨g, 0, none⟩) n c, th]], .int .i64 0, .int .i64 (n : Int)] w (SrtP w base g n c l0) := by
  have hl0 : l0.length = n := by have := own_len ho; rw [vC_length] at this; omega
  have hgl := (own_lt ho g rfl).2
  have HL := Lib.hid hl0
  have HO := Lib.hid ho
  have HBC := Lib.hid hB
  have HSW := Lib.hid hsw
  have HBB := Lib.hid (Blk.new w 101 #[.func (.func 84) #[] #[.pointer (some ⟨Bs, 0, none⟩)], .func (.func sf) #[] #[.slice (some ⟨g, 0, none⟩) n c, th]])
  clear hsw ho hB hl0
  go_enter Try.func141, Try.ntmps141
  go_wp2
  go_loopw [6] (fun e6 wr => ∃ (i : Nat) (l : List C), 1 ≤ i ∧ i ≤ n ∧ e6 = .int .i64 i ∧ l.length = n ∧ (∀ x, x ∈ l ↔ x ∈ l0) ∧ OrdTo befC l i ∧ wr.ownsRow base 59 2 (.slice (some ⟨g, 0, none⟩) n c) n (vC l) ∧ (w.alloc (.cells #[.func (.func 84) #[] #[.pointer (some ⟨Bs, 0, none⟩)], .func (.func sf) #[] #[.slice (some ⟨g, 0, none⟩) n c, th]] 101)).grownBy wr (some g)) (fun e6 _ => n - (intOf e6).toNat)
  case atStart => exact ⟨1, l0, by omega, by omega, by simp, HL.out, fun x => Iff.rfl, OrdTo.start l0, HO.out.alloc _, World.grownBy.refl _ _⟩
  case round =>
    obtain ⟨i, l, hi1, hin, rfl, hll, hmem, hord, hown, hg⟩ := hrel
    have HLL := Lib.hid hll
    have HM := Lib.hid hmem
    have HOR := Lib.hid hord
    have HOW := Lib.hid hown
    have HG := Lib.hid hg
    clear hll hmem hord hown hg
    by_cases hlt : i < n
    · have hiI : (i : Int) < (n : Int) := by omega
      go_wp2
      go_loopw [7] (fun e7 wr => ∃ (j : Nat) (l : List C), j ≤ i ∧ e7 = .int .i64 j ∧ l.length = n ∧ (∀ x, x ∈ l ↔ x ∈ l0) ∧ NearO befC l i j ∧ wr.ownsRow base 59 2 (.slice (some ⟨g, 0, none⟩) n c) n (vC l) ∧ (w.alloc (.cells #[.func (.func 84) #[] #[.pointer (some ⟨Bs, 0, none⟩)], .func (.func sf) #[] #[.slice (some ⟨g, 0, none⟩) n c, th]] 101)).grownBy wr (some g)) (fun e7 _ => (intOf e7).toNat)
      case atStart => exact ⟨i, l, Nat.le_refl _, rfl, HLL.out, HM.out, HOR.out.near, HOW.out, HG.out⟩
      case round =>
        clear HLL HM HOR HOW HG
        obtain ⟨j, l, hji, rfl, hll, hmem, hnear, hown, hg⟩ := hrel
        have HLL := Lib.hid hll
        have HM := Lib.hid hmem
        have HN := Lib.hid hnear
        have HOW := Lib.hid hown
        have HG := Lib.hid hg
        clear hll hmem hnear hown hg
        by_cases hj0 : 0 < j
        · obtain ⟨p, hp⟩ : ∃ p, j = p + 1 := ⟨j - 1, by omega⟩
          have hjI : (j : Int) > 0 := by omega
          have hpI : (j : Int) - 1 = (p : Int) := by omega
          have hpw : IntKind.i64.wrap (p : Int) = (p : Int) := Go.IntWalk.i64_in _ (by omega)
          have HP := Lib.hid hp
          have hBB := HBB.out.grown HG.out (fun e => by injection e with e; omega)
          have b0 : wr.cell? ⟨w.heap.size, 0, none⟩ = some (.func (.func 84) #[] #[.pointer (some ⟨Bs, 0, none⟩)]) := by simpa using hBB.cell 0
          have b1 : wr.cell? ⟨w.heap.size, 1, none⟩ = some (.func (.func sf) #[] #[.slice (some ⟨g, 0, none⟩) n c, th]) := by simpa using hBB.cell 1
          have bl := hBB.lt
          have HBC2 := Lib.hid (keep_grown HG.out (keep_alloc HBC.out) (by simpa using hBg))
          have HBW := Lib.hid hBB
          have hjn : j < n := by omega
          have hpn : p < n := by omega
          clear hBB hp
          cases hbf : befC (l.getD j default) (l.getD p default) with
          | true =>
            have HBF := Lib.hid hbf
            clear hbf
            go_wp2_with fail
            refine (lessCells Bs base g n c l j p _ HOW.out HBC2.out hjn hpn true HBF.out.symm).mono ?_
            rintro e w1 ⟨rfl, hb1⟩
            have hBB1 := HBW.out.below hb1
            have c1 : w1.cell? ⟨w.heap.size, 1, none⟩ = some (.func (.func sf) #[] #[.slice (some ⟨g, 0, none⟩) n c, th]) := by simpa using hBB1.cell 1
            have cl := hBB1.lt
            obtain ⟨w2, hrun, ho2, hg2⟩ := HSW.out w1 l j p (own_keep HOW.out hb1) hjn hpn
            have HO2 := Lib.hid ho2
            have HG2 := Lib.hid (hg2 _ (grown_below HG.out hb1))
            have HN2 : Hid (NearO befC (swL l j p) i p) := by
              have h1 := HN.out
              rw [HP.out] at h1 ⊢
              exact h1.step befC_sto (by omega) (by rw [HLL.out]; exact hlt) (by rw [← HP.out]; exact HBF.out)
            clear hBB1 ho2 hg2 b0 b1 bl
            go_wp2_with fail
            exact ⟨⟨p, swL l j p, by omega, rfl, by rw [swL_len]; exact HLL.out, fun x => (swL_mem l (by rw [HLL.out]; exact hjn) (by rw [HLL.out]; exact hpn) x).trans (HM.out x), HN2.out, HO2.out, HG2.out⟩, by simp [intOf]; omega⟩
          | false =>
            have HBF := Lib.hid hbf
            clear hbf
            go_wp2_with fail
            refine (lessCells Bs base g n c l j p _ HOW.out HBC2.out hjn hpn false HBF.out.symm).mono ?_
            rintro e w1 ⟨rfl, hb1⟩
            have HO2 : Hid (OrdTo befC l (i + 1)) := by
              have h1 := HN.out
              rw [HP.out] at h1
              exact h1.stop befC_sto (by have := HP.out; omega) (by rw [← HP.out]; exact HBF.out)
            go_wp2_with fail
            exact ⟨⟨i + 1, l, by omega, by omega, by go_num, HLL.out, HM.out, HO2.out, own_keep HOW.out hb1, grown_below HG.out hb1⟩, by simp [intOf]; omega⟩
        · obtain rfl : j = 0 := by omega
          have HO2 := Lib.hid (HN.out.zero)
          clear hj0
          go_wp2_with fail
          exact ⟨⟨i + 1, l, by omega, by omega, by go_num, HLL.out, HM.out, HO2.out, HOW.out, HG.out⟩, by simp [intOf]; omega⟩
    · obtain rfl : i = n := by omega
      have hiI : ¬ (i : Int) < (i : Int) := by omega
      go_wp2
      go_end0
      exact ⟨rfl, l, HLL.out, HM.out, OrdTo.done (by rw [HLL.out]; exact HOR.out), HOW.out, grown_alloc1 HG.out⟩
/-- One cell or none: nothing is asked. -/
theorem insSort1 (S : Value) (F : Value) (base g n c : Nat) (l0 : List C) (w : World) (ho : w.ownsRow base 59 2 (.slice (some ⟨g, 0, none⟩) n c) n (vC l0)) (hn : n ≤ 1) :
    Calls Try.prog 141 #[.agg #[F, S], .int .i64 0, .int .i64 (n : Int)] w (SrtP w base g n c l0) := by
  have hl0 : l0.length = n := by have := own_len ho; rw [vC_length] at this; omega
  have HL := Lib.hid hl0
  have HO := Lib.hid ho
  have hnI : ¬ (1 : Int) < (n : Int) := by omega
  clear ho hl0
  go_enter Try.func141, Try.ntmps141
  go_wp2
  go_loopw [6] (fun e6 wr => e6 = .int .i64 1 ∧ wr = w.alloc (.cells #[F, S] 101)) (fun e6 _ => 0)
  case atStart => exact ⟨by simp, rfl⟩
  case round =>
    obtain ⟨rfl, rfl⟩ := hrel
    go_wp2
    go_end0
    refine ⟨rfl, l0, HL.out, fun x => Iff.rfl, ?_, HO.out.alloc _, grown_of_alloc _ _ _⟩
    rcases (by omega : n = 0 ∨ n = 1) with rfl | rfl
    · rw [List.eq_nil_of_length_eq_zero HL.out]; exact List.Pairwise.nil
    · obtain ⟨a, ha⟩ := List.length_eq_one_iff.1 HL.out
      rw [ha]; exact List.pairwise_singleton _ _
theorem pdqSmall (D : Value) (F S : Value) (hD : D = .agg #[F, S]) (base g n c : Nat) (lim : Int) (l0 : List C) (w : World) (hn12 : n ≤ 12)
    (hi : ∀ w', Below w.heap.size w w' → Calls Try.prog 141 #[.agg #[F, S], .int .i64 0, .int .i64 (n : Int)] w' (SrtP w' base g n c l0)) :
    Calls Try.prog 119 #[D, .int .i64 0, .int .i64 (n : Int), .int .i64 lim] w (SrtP w base g n c l0) := by
  subst hD
  have HI := Lib.hid hi
  have hnI : (n : Int) ≤ 12 := by omega
  clear hi
  go_enter Try.func119, Try.ntmps119
  go_wp2
  refine wp_loop_rounds 1 ?_
  rw [rounds_succ]
  go_wp2_with fail
  refine (HI.out _ (by (repeat (first | with_reducible exact Below.refl _ _ | with_reducible assumption | with_reducible apply bel_alloc | with_reducible apply bel_drew | with_reducible apply bel_drewN | ((with_reducible refine bel_set ?_ ?_); rotate_left; (simp <;> omega)) | (with_reducible refine bel_trans ?_ (by with_reducible assumption)))))).mono ?_
  rintro e w1 ⟨rfl, l', h1, h2, h3, h4, h5⟩
  have HR : Hid (SrtP w base g n c l0 (.returned (.tuple #[])) w1) := ⟨rfl, l', h1, h2, h3, h4, grown_alloc1 h5⟩
  clear h1 h2 h3 h4 h5
  go_wp2_with fail
  (try simp only [Exit.inBlock, Exit.then])
  refine bodyPost_ret (results_none rfl _ _ _) rfl ?_
  exact HR.out
noncomputable def tiS : TypeInfo := (Try.prog.info? 30).get (by kernel_rfl)
noncomputable def tiC : TypeInfo := (Try.prog.info? 59).get (by kernel_rfl)
theorem swapK2 (n : Nat) (h2 : 2 ≤ n) : Lib.swapperK n tiC 25 = 9 := by
  have a : tiC.hasPointers = false := by kernel_rfl
  have b : tiC.bytes = 16 := by kernel_rfl
  have c : (n == 0) = false := by simp; omega
  have d : (n == 1) = false := by simp; omega
  simp [Lib.swapperK, a, b, c, d]
set_option maxRecDepth 100000 in
/-- The library's sort of a slice of one to twelve cells, with the program's test. -/
theorem sortCells (Bs base g n c : Nat) (l0 : List C) (w : World) (ho : w.ownsRow base 59 2 (.slice (some ⟨g, 0, none⟩) n c) n (vC l0)) (hB : w.cell? ⟨Bs, 0, none⟩ = some (.slice (some ⟨g, 0, none⟩) n c)) (hBg : Bs ≠ g) (hn : 1 ≤ n) (hn12 : n ≤ 12) :
    Calls Try.prog 83 #[.iface 30 (.slice (some ⟨g, 0, none⟩) n c), .func (.func 84) #[] #[.pointer (some ⟨Bs, 0, none⟩)]] w (SrtP w base g n c l0) := by
  have hagg : ∀ w, (isAgg 59).run Try.prog w = .ok true w := fun _ => by kernel_rfl
  have fin : ∀ (W : World), W = sliceWorld Try.prog Try.laysGg6_ren 30 (some ⟨g, 0, none⟩) n c w → W.ownsRow base 59 2 (.slice (some ⟨g, 0, none⟩) n c) n (vC l0) ∧ W.cell? ⟨Bs, 0, none⟩ = some (.slice (some ⟨g, 0, none⟩) n c) ∧
      ∀ w', W.grownBy w' (some g) → w.grownBy w' (some g) := by
    intro W hW
    subst hW
    unfold sliceWorld
    exact ⟨(ho.alloc _).alloc _, keep_alloc (keep_alloc hB), fun w' h => grown_alloc1 (grown_alloc1 h)⟩
  obtain ⟨h1, h2, h3⟩ := fin _ rfl
  have hpost : ∀ e w', SrtP (sliceWorld Try.prog Try.laysGg6_ren 30 (some ⟨g, 0, none⟩) n c w) base g n c l0 e w' → e = .returned (.tuple #[]) ∧ (∃ l', l'.length = n ∧ (∀ x, x ∈ l' ↔ x ∈ l0) ∧ l'.Pairwise (fun a b => befC b a = false) ∧ w'.ownsRow base 59 2 (.slice (some ⟨g, 0, none⟩) n c) n (vC l') ∧ w.grownBy w' (some g)) :=
    fun e w' ⟨he, l', a1, a2, a3, a4, a5⟩ => ⟨he, l', a1, a2, a3, a4, h3 _ a5⟩
  by_cases hn2 : 2 ≤ n
  · refine (Any.sort_Slice_of_pdq Try.laysGg6 30 59 tiS tiC (by kernel_rfl) (by kernel_rfl) (by kernel_rfl) (by kernel_rfl) 25 (fun _ => by kernel_rfl) (some ⟨g, 0, none⟩) n c (by omega) 138 (by rw [swapK2 n hn2]; kernel_rfl) (.func 84) #[] #[.pointer (some ⟨Bs, 0, none⟩)] w
      (fun w' => ∃ l', l'.length = n ∧ (∀ x, x ∈ l' ↔ x ∈ l0) ∧ l'.Pairwise (fun a b => befC b a = false) ∧ w'.ownsRow base 59 2 (.slice (some ⟨g, 0, none⟩) n c) n (vC l') ∧ w.grownBy w' (some g)) ?_).mono (fun e w' h => ⟨h.1, h.2⟩)
    have hbd : sliceBound Try.prog 59 tiC 25 (some ⟨g, 0, none⟩) n c = #[.slice (some ⟨g, 0, none⟩) n c, typeHandle Try.prog 59] := by
      unfold sliceBound
      rw [swapK2 n hn2]
      rfl
    rw [hbd]
    have hx : ∀ args W, (callFunc 138 args).run Try.prog W = ((Extern.ReflectliteSwapper.swap false args).run Try.prog W).andThen fun v w' => .ok (.value v) w' := fun args W => run_callFunc_extern Try.func138 (by kernel_rfl) (by kernel_rfl) (by kernel_rfl) (e := Extern.ReflectliteSwapper.swap false) (by kernel_rfl) args W
    refine (pdqSmall _ _ _ rfl base g n c _ l0 _ hn12 fun w' hb => ?_).mono hpost
    exact insSort _ _ Bs base g n c (fun w l i j a b c => swapCells _ false hx hagg base g n _ l i j w a b c) l0 w' (own_keep h1 hb) ((hb.cell (World.block_lt_of_cell? _ _ h2)).trans h2) hBg hn hn12
  · have hn1 : n = 1 := by omega
    subst hn1
    refine (Any.sort_Slice_of_pdq Try.laysGg6 30 59 tiS tiC (by kernel_rfl) (by kernel_rfl) (by kernel_rfl) (by kernel_rfl) 25 (fun _ => by kernel_rfl) (some ⟨g, 0, none⟩) 1 c (by omega) 131 (by kernel_rfl) (.func 84) #[] #[.pointer (some ⟨Bs, 0, none⟩)] w
      (fun w' => ∃ l', l'.length = 1 ∧ (∀ x, x ∈ l' ↔ x ∈ l0) ∧ l'.Pairwise (fun a b => befC b a = false) ∧ w'.ownsRow base 59 2 (.slice (some ⟨g, 0, none⟩) 1 c) 1 (vC l') ∧ w.grownBy w' (some g)) ?_).mono (fun e w' h => ⟨h.1, h.2⟩)
    refine (pdqSmall _ _ _ rfl base g 1 c _ l0 _ (by omega) fun w' hb => ?_).mono hpost
    exact insSort1 _ _ base g 1 c l0 w' (own_keep h1 hb) (Nat.le_refl _)
end Go.Proofs.Ytglilkneipfheaa

/- Cells put in order, each once: the program, at one to twelve cells. -/
namespace Go.Proofs.Ytglilkneipfheaa
open Go.RowKit
set_option linter.unusedVariables false
attribute [local go_sem ↓] Go.wp_at_zero Go.wp_at_succ

theorem keepG_C (l : List C) (k : Nat) : keepG l k = (k == 0 || !decide (l.getD (k - 1) default = l.getD k default)) := by
  unfold keepG
  generalize l.getD (k - 1) default = a
  generalize l.getD k default = b
  congr 1
theorem ded_fin {l xs : List C} (hp : l.Pairwise (fun a b => befC b a = false)) (hm : ∀ x, x ∈ l ↔ x ∈ xs) : dedG l l.length = sortC xs := dedG_eq befC_sto hp hm
set_option maxRecDepth 100000 in
set_option maxHeartbeats 3200000 in
theorem SortCells_i (A : Option Addr) (n c : Nat) (xs : List C) (w : World) (hr : Rd w A (vC xs)) (hl : xs.length = n) (hn : 1 ≤ n) (hn12 : n ≤ 12) :
    Calls Try.prog 32 #[.slice A n c] w (RetS w 59 2 (vC (sortC xs))) := by
  have HL := Lib.hid hl
  have HR := Lib.hid hr
  clear hl hr
  go_enter Try.func32, Try.ntmps32
  go_wp2_with (at_builtin; go_must (refine app_C _ rfl _ _ rfl w.heap.size none 0 0 [] rfl (own_nil _ _ _ _) _ _ _ xs rfl HR.out HL.out (by omega) (by omega) ?_); intro D c2 w1 ho1 hg1 hat1; simp only [Nat.zero_add, List.nil_append] at ho1; obtain ⟨g, hD, hbg, hgl⟩ := own_at ho1 (by omega); subst hD; have HO1 := Lib.hid ho1; have HB1 := Lib.hid (bel_app (Below.refl w.heap.size w) hg1 (fun g h => by cases h)); have HBX := Lib.hid (Blk.new w1 30 #[.slice (some ⟨g, 0, none⟩) n c2]); clear ho1 hg1 hat1)
  have hwl := HB1.out.size
  refine (sortCells w1.heap.size w.heap.size g n c2 xs _ (HO1.out.alloc _) (HBX.out.cell 0) (by omega) hn hn12).mono ?_
  rintro e w2 ⟨rfl, l, hll, hlm, hlp, ho2, hg2⟩
  have hb2 : Below w.heap.size w w2 := bel_app (A := some ⟨g, 0, none⟩) (bel_alloc HB1.out _) hg2 (fun k e => by simp only [ob, Option.map_some, Option.some.injEq] at e; omega)
  have HV : Hid (dedG l n = sortC xs) := by have := ded_fin hlp hlm; rwa [hll] at this
  have hBX := HBX.out.grown hg2 (fun e => by injection e with e; omega)
  have b0 : w2.cell? ⟨w1.heap.size, 0, none⟩ = some (.slice (some ⟨g, 0, none⟩) n c2) := by simpa using hBX.cell 0
  have bl := hBX.lt
  have HBY := Lib.hid hBX
  have HLL := Lib.hid hll
  have HRL := Lib.hid (Rd.of_own ho2)
  have hg3 := (own_lt ho2 g rfl).2
  have hsz2 := hb2.size
  clear hll hlm hlp ho2 hg2 hBX
  go_wp2_with fail
  go_loopw [15, 4] (fun e15 e4 wr => ∃ (k q cq : Nat) (D : Option Addr), k ≤ n ∧ q ≤ k ∧ e15 = .int .i64 k ∧ e4 = .slice D q cq ∧ wr.ownsRow w2.heap.size 59 2 (.slice D q cq) q (vC (dedG l k)) ∧ Below w2.heap.size w2 wr) (fun e15 _ _ => n - (intOf e15).toNat)
  case atStart => exact ⟨0, 0, 0, none, by omega, by omega, rfl, rfl, own_nil _ _ _ _, Below.refl _ _⟩
  case round =>
    obtain ⟨k, q, cq, D, hk, hq, rfl, rfl, hown, hb⟩ := hrel
    by_cases hlt : k < n
    · have hkl : k < l.length := by rw [HLL.out]; exact hlt
      have hrw := HRL.out.below hb
      obtain ⟨g', off, he, _, a1, a2⟩ := RdC.at_ hrw hkl
      simp only [Option.some.injEq, Addr.mk.injEq, and_true] at he
      obtain ⟨rfl, rfl⟩ := he
      rw [Nat.zero_add] at a1 a2
      have hgd : l.getD k default = l[k] := getD_in l hkl
      have hst : dedG l (k + 1) = dedG l k ++ (if keepG l k then [l.getD k default] else []) := rfl
      obtain ⟨x, hx⟩ : ∃ x, l[k].1 = x := ⟨_, rfl⟩
      obtain ⟨y, hy⟩ : ∃ y, l[k].2 = y := ⟨_, rfl⟩
      have hxy : l[k] = (x, y) := Prod.ext hx hy
      rw [hx] at a1
      rw [hy] at a2
      rw [hxy] at hgd
      rw [hgd] at hst
      have HO := Lib.hid hown
      have hbs := hb.size
      have KEEP : Hid (keepG l k = true → dedG l (k + 1) = dedG l k ++ [(x, y)]) := fun h => by rw [hst, h]; rfl
      have SKIP : Hid (keepG l k = false → dedG l (k + 1) = dedG l k) := fun h => by rw [hst, h]; simp
      have hka : keepG l k = (k == 0 || !decide (l.getD (k - 1) default = (x, y))) := by rw [keepG_C, hgd]
      have HKA := Lib.hid hka
      have hglw : g < wr.heap.size := Nat.lt_of_lt_of_le hg3 hb.size
      have hB := HBY.out.below hb
      have d0 : wr.cell? ⟨w1.heap.size, 0, none⟩ = some (.slice (some ⟨g, 0, none⟩) n c2) := by simpa using hB.cell 0
      have dl := hB.lt
      have hk1 : (0 : Int) ≤ (k : Int) := by omega
      have hk2 : (k : Int) < (n : Int) := by omega
      clear hx hy hxy hst hgd hka hown hB b0 bl
      by_cases hk0 : k = 0
      · have e0 : ((k : Int) == 0) = true := by simp [hk0]
        have HN := Lib.hid (KEEP.out (by rw [HKA.out, hk0]; rfl))
        clear KEEP SKIP HKA hk0
        go_wp2_with fail
        (refine wp_region_below (by kernel_rfl) (by kernel_rfl) ?_; (repeat (first | go_big_quiet_skip | (refine quietV (v := ?_) (by rfl) rfl (fun w' hbw => ?_) ?_; rotate_left; ((try dsimp only at hbw); have hbc := (bcell hbw).1; have hbf := (bcell hbw).2; go_simp; first | done | with_reducible rfl | fail); simp only [List.setIfInBounds_toArray, List.set_cons_zero, List.set_cons_succ]))); refine wpQuiet_nil ?_; intro wq hbq)
        have hbz := hbq.size
        simp only [World.size_alloc] at hbz
        have hCB := (Blk.new wr 59 #[.int .i64 x, .int .i64 y]).below hbq
        have z0 : wq.cell? ⟨wr.heap.size, 0, none⟩ = some (.int .i64 x) := by simpa using hCB.cell 0
        have z1 : wq.cell? ⟨wr.heap.size, 1, none⟩ = some (.int .i64 y) := by simpa using hCB.cell 1
        have zl := hCB.lt
        clear hCB
        go_wp2_with (at_builtin; go_must (refine app_C _ rfl _ _ rfl w2.heap.size _ _ _ _ rfl (own_keep (own_keep (HO.out.alloc _) hbq) (bel_alloc (Below.refl _ _) _)) _ _ _ [(x, y)] rfl (rd_newC _ _ _ _) rfl (by omega) (by simp; omega) ?_); intro D2 cp2 w8 ho8 hg8 hat8; have HO8 := Lib.hid ho8; have HG8 := Lib.hid hg8; clear ho8 hg8 hat8)
        exact ⟨⟨k + 1, q + 1, cp2, D2, by omega, by omega, by go_num, rfl, by rw [HN.out]; exact HO8.out, bel_app (bel_alloc (bel_trans (bel_alloc hb _) hbq) _) HG8.out (fun g' hg1 => ((own_lt HO.out) g' hg1).1)⟩, by simp [intOf]; omega⟩
      · obtain ⟨j, hjk⟩ : ∃ j, k = j + 1 := ⟨k - 1, by omega⟩
        have hjl : j < l.length := by omega
        obtain ⟨g', off', he, _, c1, c3⟩ := RdC.at_ hrw hjl
        simp only [Option.some.injEq, Addr.mk.injEq, and_true] at he
        obtain ⟨rfl, rfl⟩ := he
        rw [Nat.zero_add] at c1 c3
        obtain ⟨p, hp⟩ : ∃ p, l[j].1 = p := ⟨_, rfl⟩
        obtain ⟨r, hr⟩ : ∃ r, l[j].2 = r := ⟨_, rfl⟩
        have hgj : l.getD (k - 1) default = (p, r) := by rw [hjk, Nat.add_sub_cancel, getD_in l hjl]; exact Prod.ext hp hr
        rw [hp] at c1
        rw [hr] at c3
        have e0 : ((k : Int) == 0) = false := by simp; omega
        have hj1 : (k : Int) - 1 = (j : Int) := by omega
        have hj0 : (0 : Int) ≤ (j : Int) := by omega
        have hjw : IntKind.i64.wrap (j : Int) = (j : Int) := Go.IntWalk.i64_in _ (by omega)
        have hjm : (j : Int) < (n : Int) := by omega
        have hkk : (k == 0) = false := by simpa using hk0
        have hkz : ¬ k = 0 := hk0
        have HKK := Lib.hid hkk
        have HGJ := Lib.hid hgj
        clear hp hr hgj hjk hkk hk0
        by_cases hsame : p = x ∧ r = y
        · obtain ⟨rfl, rfl⟩ := hsame
          have HN := Lib.hid (SKIP.out (by rw [HKA.out, HKK.out, HGJ.out]; simp))
          have hne : (p == p && r == r) = true := by simp
          clear KEEP SKIP HKA
          go_wp2_with fail
          (refine wp_region_below (by kernel_rfl) (by kernel_rfl) ?_; (repeat (first | go_big_quiet_skip | (refine quietV (v := ?_) (by rfl) rfl (fun w' hbw => ?_) ?_; rotate_left; ((try dsimp only at hbw); have hbc := (bcell hbw).1; have hbf := (bcell hbw).2; go_simp; first | done | with_reducible rfl | fail); simp only [List.setIfInBounds_toArray, List.set_cons_zero, List.set_cons_succ]))); refine wpQuiet_nil ?_; intro wq hbq)
          go_wp2_with fail
          exact ⟨⟨k + 1, q, cq, D, by omega, by omega, by go_num, rfl, by rw [HN.out]; exact own_keep (HO.out.alloc _) hbq, bel_trans (bel_alloc hb _) hbq⟩, by simp [intOf]; omega⟩
        · have hne : (p == x && r == y) = false := by
            rw [Bool.and_eq_false_iff, beq_eq_false_iff_ne, beq_eq_false_iff_ne]
            by_cases h1 : p = x
            · exact .inr fun h2 => hsame ⟨h1, h2⟩
            · exact .inl h1
          have HN := Lib.hid (KEEP.out (by
            rw [HKA.out, HKK.out, HGJ.out, Bool.false_or, decide_eq_false (fun e => hsame (by injection e with e1 e2; exact ⟨e1, e2⟩))]
            rfl))
          clear KEEP SKIP HKA hsame
          go_wp2_with fail
          (refine wp_region_below (by kernel_rfl) (by kernel_rfl) ?_; (repeat (first | go_big_quiet_skip | (refine quietV (v := ?_) (by rfl) rfl (fun w' hbw => ?_) ?_; rotate_left; ((try dsimp only at hbw); have hbc := (bcell hbw).1; have hbf := (bcell hbw).2; go_simp; first | done | with_reducible rfl | fail); simp only [List.setIfInBounds_toArray, List.set_cons_zero, List.set_cons_succ]))); refine wpQuiet_nil ?_; intro wq hbq)
          have hbz := hbq.size
          simp only [World.size_alloc] at hbz
          have hCB := (Blk.new wr 59 #[.int .i64 x, .int .i64 y]).below hbq
          have z0 : wq.cell? ⟨wr.heap.size, 0, none⟩ = some (.int .i64 x) := by simpa using hCB.cell 0
          have z1 : wq.cell? ⟨wr.heap.size, 1, none⟩ = some (.int .i64 y) := by simpa using hCB.cell 1
          have zl := hCB.lt
          clear hCB
          go_wp2_with (at_builtin; go_must (refine app_C _ rfl _ _ rfl w2.heap.size _ _ _ _ rfl (own_keep (own_keep (HO.out.alloc _) hbq) (bel_alloc (Below.refl _ _) _)) _ _ _ [(x, y)] rfl (rd_newC _ _ _ _) rfl (by omega) (by simp; omega) ?_); intro D2 cp2 w8 ho8 hg8 hat8; have HO8 := Lib.hid ho8; have HG8 := Lib.hid hg8; clear ho8 hg8 hat8)
          exact ⟨⟨k + 1, q + 1, cp2, D2, by omega, by omega, by go_num, rfl, by rw [HN.out]; exact HO8.out, bel_app (bel_alloc (bel_trans (bel_alloc hb _) hbq) _) HG8.out (fun g' hg1 => ((own_lt HO.out) g' hg1).1)⟩, by simp [intOf]; omega⟩
    · obtain rfl : k = n := by omega
      rw [HV.out] at hown
      have HO := Lib.hid (own_base hown hsz2)
      have hk1 : ¬ (k : Int) < (k : Int) := by omega
      clear hown
      go_wp2
      go_ret
      exact ⟨_, _, _, rfl, HO.out, bel_trans hb2 hb⟩
end Go.Proofs.Ytglilkneipfheaa

/- Cells moved, moved to their corner, the neighbours of a cell: the program. -/
namespace Go.Proofs.Ytglilkneipfheaa
open Go.RowKit
set_option linter.unusedVariables false
attribute [local go_sem ↓] Go.wp_at_zero Go.wp_at_succ

theorem copyCells_i2 (A : Option Addr) (n c : Nat) (xs : List C) (w : World) (hr : Rd w A (vC xs)) (hl : xs.length = n) (hn : n ≤ 1048576) :
    Calls Try.prog 150 #[.slice A n c] w (RetS w 59 2 (vC xs)) := by
  have HL := Lib.hid hl
  clear hl
  go_enter Try.func150, Try.ntmps150
  go_wp2_with (at_builtin; go_must (refine app_C _ rfl _ _ rfl w.heap.size none 0 0 [] rfl (own_nil _ _ _ _) _ _ _ xs rfl hr HL.out (by omega) (by omega) ?_); intro A' c' w' hown' hg' hat'; simp only [Nat.zero_add, List.nil_append] at hown'; have HO := Lib.hid hown'; have HB := Lib.hid (bel_app (Below.refl w.heap.size w) hg' (fun g h => by cases h)); clear hown' hg' hat')
  go_ret
  exact ⟨_, _, _, rfl, HO.out, HB.out⟩
set_option maxHeartbeats 800000 in
theorem moved_i (A : Option Addr) (n c : Nat) (xs : List C) (x y : Int) (w : World) (hr : Rd w A (vC xs)) (hl : xs.length = n) (hn : n ≤ 1048576) (hs : ∀ d ∈ xs, small d) (hx : -1000 ≤ x ∧ x ≤ 1000) (hy : -1000 ≤ y ∧ y ≤ 1000) :
    Calls Try.prog 161 #[.slice A n c, .int .i64 x, .int .i64 y] w (RetS w 59 2 (vC (mv xs x y))) := by
  have HL := Lib.hid hl
  have HS := Lib.hid hs
  obtain ⟨hx1, hx2⟩ := hx
  obtain ⟨hy1, hy2⟩ := hy
  clear hl hs
  go_enter Try.func161, Try.ntmps161
  go_wp2
  go_loopw [12, 7] (fun e12 e7 wr => ∃ (k cq : Nat) (D : Option Addr), k ≤ n ∧ e12 = .int .i64 k ∧ e7 = .slice D k cq ∧ wr.ownsRow w.heap.size 59 2 (.slice D k cq) k (vC (mv (xs.take k) x y)) ∧ Below w.heap.size w wr) (fun e12 _ _ => n - (intOf e12).toNat)
  case atStart => exact ⟨0, 0, none, Nat.zero_le _, rfl, rfl, own_nil _ _ _ _, Below.refl _ _⟩
  case round =>
    obtain ⟨k, cq, D, hk, rfl, rfl, hown, hb⟩ := hrel
    by_cases hlt : k < n
    · have hkl : k < xs.length := by rw [HL.out]; exact hlt
      have hk0 : (0 : Int) ≤ (k : Int) := by omega
      have hk1 : (k : Int) < (n : Int) := by omega
      obtain ⟨g, off, rfl, hg, d1, d2⟩ := RdC.at_ (hr.below hb) hkl
      have hst := mv_take xs x y k hkl
      have hsm := HS.out _ (List.getElem_mem hkl)
      obtain ⟨p, hp⟩ : ∃ p, xs[k].1 = p := ⟨_, rfl⟩
      obtain ⟨q, hq⟩ : ∃ q, xs[k].2 = q := ⟨_, rfl⟩
      unfold small at hsm
      rw [hp, hq] at hsm hst
      rw [hp] at d1
      rw [hq] at d2
      have e1 : IntKind.i64.wrap (p + x) = p + x := Go.IntWalk.i64_in _ (by omega)
      have e2 : IntKind.i64.wrap (q + y) = q + y := Go.IntWalk.i64_in _ (by omega)
      have HST := Lib.hid hst
      have HO := Lib.hid hown
      have hbs := hb.size
      have HRN : Hid (Rd ((wr.alloc (.cells #[.int .i64 p, .int .i64 q] 59)).alloc (.cells #[.int .i64 (p + x), .int .i64 (q + y)] 59)) (some ⟨wr.heap.size + 1, 0, none⟩) (vC [(p + x, q + y)])) := by
        have := rd_newC (wr.alloc (.cells #[.int .i64 p, .int .i64 q] 59)) 59 (p + x) (q + y)
        rw [show (wr.alloc (.cells #[.int .i64 p, .int .i64 q] 59)).heap.size = wr.heap.size + 1 from by simp] at this
        exact this
      clear hst hown hp hq hsm
      go_wp2_with (at_builtin; go_must (refine app_C _ rfl _ _ rfl w.heap.size _ _ _ _ rfl ((HO.out.alloc _).alloc _) _ _ _ [(p + x, q + y)] rfl HRN.out rfl (by omega) (by simp; omega) ?_); intro D2 cp2 w8 ho8 hg8 hat8; have HO8 := Lib.hid ho8; have HG8 := Lib.hid hg8; clear ho8 hg8 hat8)
      exact ⟨⟨k + 1, cp2, D2, by omega, by go_num, rfl, by rw [HST.out]; exact HO8.out, bel_app (bel_alloc (bel_alloc hb _) _) HG8.out (fun g' hg1 => ((own_lt HO.out) g' hg1).1)⟩, by simp [intOf]; omega⟩
    · obtain rfl : k = n := by omega
      rw [List.take_of_length_le (by rw [HL.out]; omega)] at hown
      have HO := Lib.hid hown
      have hk1 : ¬ (k : Int) < (k : Int) := by omega
      clear hown
      go_wp2
      go_ret
      exact ⟨_, _, _, rfl, HO.out, hb⟩
set_option maxHeartbeats 1600000 in
theorem corner_i (A : Option Addr) (n c : Nat) (xs : List C) (w : World) (hr : Rd w A (vC xs)) (hl : xs.length = n) (hn1 : 1 ≤ n) (hn : n ≤ 12) (hs : ∀ d ∈ xs, small d) :
    Calls Try.prog 149 #[.slice A n c] w (RetS w 59 2 (vC (cornI xs))) := by
  have h0 : 0 < xs.length := by omega
  have hsm := minC_small h0 hs
  have hms : ∀ k, k ≤ n → (-1000 ≤ minTo (·.1) xs k ∧ minTo (·.1) xs k ≤ 1000) ∧ (-1000 ≤ minTo (·.2) xs k ∧ minTo (·.2) xs k ≤ 1000) := by
    intro k hk
    obtain ⟨a, ha, e1⟩ := minTo_at (·.1) xs h0 k (by omega)
    obtain ⟨b, hb, e2⟩ := minTo_at (·.2) xs h0 k (by omega)
    have h1 := hs a ha
    have h2 := hs b hb
    unfold small at h1 h2
    rw [e1, e2]
    exact ⟨h1.1, h2.2⟩
  have hV : cornI xs = sortC (mv xs (-(minTo (·.1) xs n)) (-(minTo (·.2) xs n))) := by unfold cornI minC; rw [hl]
  have HV := Lib.hid hV
  have HL := Lib.hid hl
  have HS := Lib.hid hs
  have HMS := Lib.hid hms
  have HR := Lib.hid hr
  obtain ⟨g0, o0, hA, hg0, z1, z2⟩ := RdC.at_ hr h0
  subst hA
  obtain ⟨u, hu⟩ : ∃ u, xs[0].1 = u := ⟨_, rfl⟩
  obtain ⟨v, hv⟩ : ∃ v, xs[0].2 = v := ⟨_, rfl⟩
  rw [hu] at z1
  rw [hv] at z2
  simp only [Nat.zero_mul, Nat.add_zero] at z1 z2
  have H1 : Hid (minTo (·.1) xs 0 = u) := by show (xs.getD 0 default).1 = u; rw [getD_in xs h0, hu]
  have H2 : Hid (minTo (·.2) xs 0 = v) := by show (xs.getD 0 default).2 = v; rw [getD_in xs h0, hv]
  have hn0 : (0 : Int) < (n : Int) := by omega
  have hn00 : 0 < n := by omega
  clear hl hs hms hr hV hu hv hsm
  go_enter Try.func149, Try.ntmps149
  go_wp2_with fail
  (refine wp_region_below (by kernel_rfl) (by kernel_rfl) ?_; (repeat (first | go_big_quiet_skip | (refine quietV (v := ?_) (by rfl) rfl (fun w' hbw => ?_) ?_; rotate_left; ((try dsimp only at hbw); have hbc := (bcell hbw).1; have hbf := (bcell hbw).2; go_simp; first | done | with_reducible rfl | fail); simp only [List.setIfInBounds_toArray, List.set_cons_zero, List.set_cons_succ]))); refine wpQuiet_nil ?_; intro wq hbq)
  clear z1 z2
  go_wp2_with fail
  go_loopw [17, 3, 4] (fun e17 e3 e4 wr => ∃ (k : Nat) (px py : Int), k ≤ n ∧ e17 = .int .i64 k ∧ e3 = .int .i64 px ∧ e4 = .int .i64 py ∧ minTo (·.1) xs k = px ∧ minTo (·.2) xs k = py ∧ Below w.heap.size w wr) (fun e17 _ _ _ => n - (intOf e17).toNat)
  case atStart => exact ⟨0, u, v, Nat.zero_le _, rfl, rfl, rfl, H1.out, H2.out, hbq⟩
  case round =>
    obtain ⟨k, px, py, hk, rfl, rfl, rfl, hpx, hpy, hb⟩ := hrel
    have HPX := Lib.hid hpx
    have HPY := Lib.hid hpy
    clear hpx hpy
    by_cases hlt : k < n
    · have hkl : k < xs.length := by rw [HL.out]; exact hlt
      have hk0 : (0 : Int) ≤ (k : Int) := by omega
      have hk1 : (k : Int) < (n : Int) := by omega
      obtain ⟨g, off, he, hg, d1, d2⟩ := RdC.at_ (HR.out.below hb) hkl
      simp only [Option.some.injEq, Addr.mk.injEq, and_true] at he
      obtain ⟨rfl, rfl⟩ := he
      obtain ⟨p, hp⟩ : ∃ p, xs[k].1 = p := ⟨_, rfl⟩
      obtain ⟨q, hq⟩ : ∃ q, xs[k].2 = q := ⟨_, rfl⟩
      rw [hp] at d1
      rw [hq] at d2
      have S1 : Hid (minTo (·.1) xs (k + 1) = if p < px then p else px) := by show minTo (·.1) xs (k + 1) = _; unfold minTo; rw [getD_in xs hkl, hp, HPX.out]
      have S2 : Hid (minTo (·.2) xs (k + 1) = if q < py then q else py) := by show minTo (·.2) xs (k + 1) = _; unfold minTo; rw [getD_in xs hkl, hq, HPY.out]
      clear hp hq
      by_cases h1 : p < px
      · by_cases h2 : q < py
        · have T1 : Hid (minTo (·.1) xs (k + 1) = p) := by show _ = _; rw [S1.out]; exact if_pos h1
          have T2 : Hid (minTo (·.2) xs (k + 1) = q) := by show _ = _; rw [S2.out]; exact if_pos h2
          go_wp2_with fail
          (refine wp_region_below (by kernel_rfl) (by kernel_rfl) ?_; (repeat (first | go_big_quiet_skip | (refine quietV (v := ?_) (by rfl) rfl (fun w' hbw => ?_) ?_; rotate_left; ((try dsimp only at hbw); have hbc := (bcell hbw).1; have hbf := (bcell hbw).2; go_simp; first | done | with_reducible rfl | fail); simp only [List.setIfInBounds_toArray, List.set_cons_zero, List.set_cons_succ]))); refine wpQuiet_nil ?_; intro wq hbq)
          go_wp2_with fail
          exact ⟨⟨k + 1, p, q, by omega, by go_num, by first | rfl | (simp <;> omega), by first | rfl | (simp <;> omega), T1.out, T2.out, bel_trans (bel_alloc hb _) hbq⟩, by simp [intOf]; omega⟩
        · have T1 : Hid (minTo (·.1) xs (k + 1) = p) := by show _ = _; rw [S1.out]; exact if_pos h1
          have T2 : Hid (minTo (·.2) xs (k + 1) = py) := by show _ = _; rw [S2.out]; exact if_neg h2
          go_wp2_with fail
          (refine wp_region_below (by kernel_rfl) (by kernel_rfl) ?_; (repeat (first | go_big_quiet_skip | (refine quietV (v := ?_) (by rfl) rfl (fun w' hbw => ?_) ?_; rotate_left; ((try dsimp only at hbw); have hbc := (bcell hbw).1; have hbf := (bcell hbw).2; go_simp; first | done | with_reducible rfl | fail); simp only [List.setIfInBounds_toArray, List.set_cons_zero, List.set_cons_succ]))); refine wpQuiet_nil ?_; intro wq hbq)
          go_wp2_with fail
          exact ⟨⟨k + 1, p, py, by omega, by go_num, by first | rfl | (simp <;> omega), by first | rfl | (simp <;> omega), T1.out, T2.out, bel_trans (bel_alloc hb _) hbq⟩, by simp [intOf]; omega⟩
      · by_cases h2 : q < py
        · have T1 : Hid (minTo (·.1) xs (k + 1) = px) := by show _ = _; rw [S1.out]; exact if_neg h1
          have T2 : Hid (minTo (·.2) xs (k + 1) = q) := by show _ = _; rw [S2.out]; exact if_pos h2
          go_wp2_with fail
          (refine wp_region_below (by kernel_rfl) (by kernel_rfl) ?_; (repeat (first | go_big_quiet_skip | (refine quietV (v := ?_) (by rfl) rfl (fun w' hbw => ?_) ?_; rotate_left; ((try dsimp only at hbw); have hbc := (bcell hbw).1; have hbf := (bcell hbw).2; go_simp; first | done | with_reducible rfl | fail); simp only [List.setIfInBounds_toArray, List.set_cons_zero, List.set_cons_succ]))); refine wpQuiet_nil ?_; intro wq hbq)
          go_wp2_with fail
          exact ⟨⟨k + 1, px, q, by omega, by go_num, by first | rfl | (simp <;> omega), by first | rfl | (simp <;> omega), T1.out, T2.out, bel_trans (bel_alloc hb _) hbq⟩, by simp [intOf]; omega⟩
        · have T1 : Hid (minTo (·.1) xs (k + 1) = px) := by show _ = _; rw [S1.out]; exact if_neg h1
          have T2 : Hid (minTo (·.2) xs (k + 1) = py) := by show _ = _; rw [S2.out]; exact if_neg h2
          go_wp2_with fail
          (refine wp_region_below (by kernel_rfl) (by kernel_rfl) ?_; (repeat (first | go_big_quiet_skip | (refine quietV (v := ?_) (by rfl) rfl (fun w' hbw => ?_) ?_; rotate_left; ((try dsimp only at hbw); have hbc := (bcell hbw).1; have hbf := (bcell hbw).2; go_simp; first | done | with_reducible rfl | fail); simp only [List.setIfInBounds_toArray, List.set_cons_zero, List.set_cons_succ]))); refine wpQuiet_nil ?_; intro wq hbq)
          go_wp2_with fail
          exact ⟨⟨k + 1, px, py, by omega, by go_num, by first | rfl | (simp <;> omega), by first | rfl | (simp <;> omega), T1.out, T2.out, bel_trans (bel_alloc hb _) hbq⟩, by simp [intOf]; omega⟩
    · obtain rfl : k = n := by omega
      have hk1 : ¬ (k : Int) < (k : Int) := by omega
      have hms := HMS.out k (Nat.le_refl _)
      rw [HPX.out, HPY.out] at hms
      obtain ⟨⟨q1, q2⟩, q3, q4⟩ := hms
      have e1 : IntKind.i64.wrap (-px) = -px := Go.IntWalk.i64_in _ (by omega)
      have e2 : IntKind.i64.wrap (-py) = -py := Go.IntWalk.i64_in _ (by omega)
      go_wp2_with fail
      refine (moved_i _ k c xs (-px) (-py) _ (HR.out.below hb) HL.out (by omega) HS.out (by omega) (by omega)).mono ?_
      rintro e w1 ⟨D, m, cD, rfl, ho, hb1⟩
      have hm : m = k := by have := own_len ho; rw [vC_length, mv_len, HL.out] at this; omega
      subst hm
      have HO := Lib.hid ho
      clear ho
      go_wp2_with fail
      refine (SortCells_i D m cD _ _ (Rd.of_own HO.out) (by rw [mv_len]; exact HL.out) hn1 hn).mono ?_
      rintro e w2 ⟨E, m2, cE, rfl, ho2, hb2⟩
      rw [← HPX.out, ← HPY.out, ← HV.out] at ho2
      have HO2 := Lib.hid (own_base (base' := w.heap.size) ho2 (by have := hb.size; have := hb1.size; omega))
      clear ho2
      go_wp2_with fail
      go_ret
      exact ⟨_, _, _, rfl, HO2.out, bel_trans (bel_trans hb hb1) hb2⟩
end Go.Proofs.Ytglilkneipfheaa

/- The place of a shape in an ordered list: the library's search with the program's own test. -/
namespace Go.Proofs.Ytglilkneipfheaa
open Go.RowKit
set_option linter.unusedVariables false
attribute [local go_sem ↓] Go.wp_at_zero Go.wp_at_succ

theorem world_lt {w : World} {a : Addr} {v : Value} (h : w.cell? a = some v) : a.block < w.heap.size := World.block_lt_of_cell? w a h
set_option maxHeartbeats 800000 in
/-- The test: is the shape at place i not less than the one that is sought? -/
theorem putTest (b2 b3 : Nat) (A : Option Addr) (n c : Nat) (hs : List H) (F : List (List C)) (B : Option Addr) (m d : Nat) (f : List C) (i : Nat) (w : World) (hr : RdF w A n hs F) (hf : CRow w (B, m, d) f)
    (c2 : w.cell? ⟨b2, 0, none⟩ = some (.slice A n c)) (c3 : w.cell? ⟨b3, 0, none⟩ = some (.slice B m d)) (hi : i < n) (hl : ∀ x ∈ F, x.length ≤ 1048576) (hm : m ≤ 1048576) (b : Bool) (hv : b = !ltS (F.getD i default) f) :
    Calls Try.prog 152 #[.int .i64 (i : Int), .pointer (some ⟨b2, 0, none⟩), .pointer (some ⟨b3, 0, none⟩)] w (Ret w (.bool b)) := by
  obtain ⟨x, t, g, off, hsx, hfx, rfl, hg, c1, hrow⟩ := hr.at_ hi
  have ht : F.getD i default = t := by rw [List.getD_eq_getElem?_getD, hfx]; rfl
  have htl := hl t (List.mem_of_getElem? hfx)
  obtain ⟨C1, m1, k1⟩ := x
  have h1 : t.length = m1 := hrow.1
  have H1 := Lib.hid h1
  have HR := Lib.hid hrow
  have HF := Lib.hid hf
  have HB := Lib.hid (world_lt c2)
  have HB3 := Lib.hid (world_lt c3)
  have hb2 := HB.out
  have hb3 := HB3.out
  have hm1 : m1 ≤ 1048576 := by omega
  have hi0 : (0 : Int) ≤ (i : Int) := by omega
  have hi1 : (i : Int) < (n : Int) := by omega
  dsimp only at c1
  obtain ⟨v, hve⟩ : ∃ v, cmpS t f = v := ⟨_, rfl⟩
  have hb : b = decide (v ≥ 0) := by rw [hv, ht, ← hve, cmpS_neg]
  have HV := Lib.hid hve
  subst hb
  clear hv hve ht htl hsx hfx hrow hf h1 hr hl
  go_enter Try.func152, Try.ntmps152
  go_wp2_with fail
  (refine wp_region_below (by kernel_rfl) (by kernel_rfl) ?_; (repeat (first | go_big_quiet_skip | (refine quietV (v := ?_) (by rfl) rfl (fun w' hbw => ?_) ?_; rotate_left; ((try dsimp only at hbw); have hbc := (bcell hbw).1; have hbf := (bcell hbw).2; go_simp; first | done | with_reducible rfl | exact callsB (v := .int .i64 v) (by rw [← HV.out]; exact CompareShapes_i C1 B m1 k1 m d t f _ (HR.out.2.1.below hbw) (HF.out.2.1.below hbw) H1.out HF.out.1 (by omega) (by omega)) hbw); simp only [List.setIfInBounds_toArray, List.set_cons_zero, List.set_cons_succ]))); refine wpQuiet_nil ?_; intro wq hbq)
  go_wp2_with fail
  go_ret
  exact ⟨rfl, hbq⟩
set_option maxHeartbeats 1600000 in
theorem putSearch (b2 b3 : Nat) (A : Option Addr) (n c : Nat) (hs : List H) (F : List (List C)) (B : Option Addr) (m d : Nat) (f : List C) (w : World) (hr : RdF w A n hs F) (hf : CRow w (B, m, d) f)
    (c2 : w.cell? ⟨b2, 0, none⟩ = some (.slice A n c)) (c3 : w.cell? ⟨b3, 0, none⟩ = some (.slice B m d)) (hl : ∀ x ∈ F, x.length ≤ 1048576) (hm : m ≤ 1048576) (hn : n ≤ 1099511627776) (hi : IncG ltS F) :
    Calls Try.prog 151 #[.int .i64 (n : Int), .func (.func 152) #[] #[.pointer (some ⟨b2, 0, none⟩), .pointer (some ⟨b3, 0, none⟩)]] w (Ret w (.int .i64 (F.countP (fun x => ltS x f) : Nat))) := by
  have HL := Lib.hid hl
  have HI := Lib.hid hi
  have HR := Lib.hid hr
  have HF := Lib.hid hf
  have HN := Lib.hid hr.flen
  have HC2 := Lib.hid c2
  have HC3 := Lib.hid c3
  clear hl hi hr hf c2 c3
  go_enter Try.func151, Try.ntmps151
  go_wp2
  go_loopw [5, 6] (fun e5 e6 wr => ∃ (lo hi : Nat), e5 = .int .i64 lo ∧ e6 = .int .i64 hi ∧ lo ≤ hi ∧ hi ≤ n ∧ (∀ t, t < lo → ltS (F.getD t default) f = true) ∧ (∀ t, hi ≤ t → t < n → ltS (F.getD t default) f = false) ∧ Below w.heap.size w wr) (fun e5 e6 _ => (intOf e6).toNat - (intOf e5).toNat)
  case atStart => exact ⟨0, n, rfl, rfl, Nat.zero_le _, Nat.le_refl _, fun t h => absurd h (by omega), fun t h1 h2 => by omega, Below.refl _ _⟩
  case round =>
    obtain ⟨lo, hi, rfl, rfl, hlh, hin, hlow, hhigh, hb⟩ := hrel
    have HLO := Lib.hid hlow
    have HHI := Lib.hid hhigh
    clear hlow hhigh
    by_cases hlt : lo < hi
    · have hltI : (lo : Int) < (hi : Int) := by omega
      obtain ⟨k, hk⟩ : ∃ k, (lo + hi) / 2 = k := ⟨_, rfl⟩
      have hkI : ((lo : Int) + (hi : Int)) / 2 = (k : Int) := by rw [← hk]; simp
      have hk1 : lo ≤ k := by omega
      have hk2 : k < hi := by omega
      have HK := Lib.hid hk
      clear hk
      cases ht : ltS (F.getD k default) f with
      | true =>
        have HT := Lib.hid ht
        clear ht
        go_wp2_with fail
        refine (putTest b2 b3 A n c hs F B m d f k _ (HR.out.below hb) (HF.out.below hb) ((hb.cell (world_lt HC2.out)).trans HC2.out) ((hb.cell (world_lt HC3.out)).trans HC3.out) (by omega) HL.out hm false (by rw [HT.out]; rfl)).mono ?_
        rintro e w1 ⟨rfl, hb1⟩
        go_wp2_with fail
        refine ⟨⟨k + 1, hi, by go_num, rfl, by omega, hin, fun t h => ?_, HHI.out, bel_trans hb hb1⟩, by simp [intOf]; omega⟩
        cases he : ltS (F.getD t default) f with
        | true => rfl
        | false =>
          exfalso
          rcases Nat.lt_or_ge t k with h1 | h1
          · have := incG_get ltS_sto HI.out h1 (by rw [HN.out]; omega)
            rw [ltS_sto.trans this HT.out] at he
            cases he
          · obtain rfl : t = k := by omega
            rw [HT.out] at he
            cases he
      | false =>
        have HT := Lib.hid ht
        clear ht
        go_wp2_with fail
        refine (putTest b2 b3 A n c hs F B m d f k _ (HR.out.below hb) (HF.out.below hb) ((hb.cell (world_lt HC2.out)).trans HC2.out) ((hb.cell (world_lt HC3.out)).trans HC3.out) (by omega) HL.out hm true (by rw [HT.out]; rfl)).mono ?_
        rintro e w1 ⟨rfl, hb1⟩
        go_wp2_with fail
        refine ⟨⟨lo, k, rfl, rfl, hk1, by omega, HLO.out, fun t h1 h2 => ?_, bel_trans hb hb1⟩, by simp [intOf]; omega⟩
        cases he : ltS (F.getD t default) f with
        | false => rfl
        | true =>
          exfalso
          rcases Nat.lt_or_ge k t with h3 | h3
          · have := incG_get ltS_sto HI.out h3 (by rw [HN.out]; omega)
            have h4 := ltS_sto.trans this he
            rw [HT.out] at h4
            cases h4
          · obtain rfl : t = k := by omega
            rw [HT.out] at he
            cases he
    · obtain rfl : lo = hi := by omega
      have hltI : ¬ (lo : Int) < (lo : Int) := by omega
      have HV : Hid (F.countP (fun x => ltS x f) = lo) := countP_cut (by rw [HN.out]; exact hin)
        (fun t x h1 h2 => by have := HLO.out t h1; rwa [List.getD_eq_getElem?_getD, h2] at this)
        (fun t x h1 h2 => by have := HHI.out t h1 (by have := (List.getElem?_eq_some_iff.1 h2).1; rw [HN.out] at this; exact this); rwa [List.getD_eq_getElem?_getD, h2] at this)
      go_wp2
      go_ret
      exact ⟨by rw [HV.out]; rfl, hb⟩
end Go.Proofs.Ytglilkneipfheaa

/- A shape put into an ordered list, once: the program. -/
namespace Go.Proofs.Ytglilkneipfheaa
open Go.RowKit
set_option linter.unusedVariables false
attribute [local go_sem ↓] Go.wp_at_zero Go.wp_at_succ

theorem infoF : (Try.prog.info? 30).map (fun i => (i.zero, i.size, i.bytes)) = some (some (.slice none 0 0), 1, 24) := by kernel_rfl
section
variable (w : World) {ops : Array Oper} {rest : List Oper} {o : Oper} {a : Act} {Q : Exit → Act → World → Prop}
theorem app_F (hgd : o.guard = none) (s x : Operand) (ho : o.op = .call { callee := .builtin .append, args := #[s, x], argTypes := #[46, 46] })
    (base : Nat) (A : Option Addr) (n c : Nat) (l : List H) (hs : a.eval s = .slice A n c) (hown : w.ownsRow base 30 1 (.slice A n c) n (vS l))
    (A2 : Option Addr) (m c2 : Nat) (l2 : List H) (hx : a.eval x = .slice A2 m c2) (hr : Rd w A2 (vS l2)) (hl : l2.length = m) (hb : n + m ≤ 1099511627776) (hbase : base ≤ w.heap.size)
    (h : ∀ A' c' w', w'.ownsRow base 30 1 (.slice A' (n + m) c') (n + m) (vS (l ++ l2)) → w.grownBy w' (ob A) → (ob A' = ob A ∨ ob A' = some w.heap.size) → wpList Try.prog ops Q rest (a.put o.dst (.slice A' (n + m) c')) w') :
    wpList Try.prog ops Q (o :: rest) a w := by
  obtain ⟨i0, hi, hz0, hz1, hz2⟩ := info_parts infoF
  refine wpList_app w hgd s x _ ho base _ i0 _ 1 24 Try.underlying46 hi hz0 hz1 hz2 rfl (by omega) A n c _ hs hown A2 m c2 _ hx hr (by rw [vS_length, hl]; omega) (vS_one _) (by unfold maxLen; omega) (by omega) hbase ?_
  intro A' c' w' h1
  rw [← vS_append] at h1
  exact h A' c' w' h1
end
def offF (c k : Nat) : Nat := if c = k then 0 else k
theorem run_fromF (w : World) (g m c k : Nat) (hk : k ≤ m) : (Instr.slice 46 (.slice (some ⟨g, 0, none⟩) m c) (some (.int .i64 (k : Int))) none none).run Try.prog w = .ok (.slice (some ⟨g, offF c k, none⟩) (m - k) (c - k)) w := by
  have h1 : (0 : Int) ≤ (k : Int) := by omega
  have h2 : (k : Int) ≤ (m : Int) := by omega
  unfold offF
  by_cases hc : c = k
  · subst hc
    simp [go_sem, h2]
  · simp [go_sem, h2, hc]
/-- What lies behind place k moves on by one. -/
theorem run_shift (w : World) (base g n c k : Nat) (L : List H) (ho : w.ownsRow base 30 1 (.slice (some ⟨g, 0, none⟩) (n + 1) c) (n + 1) (vS L)) (hk : k ≤ n) (ty : TypeId) :
    ∃ w', (Builtin.copy_ #[46, 46] ty #[.slice (some ⟨g, offF c (k + 1), none⟩) (n + 1 - (k + 1)) (c - (k + 1)), .slice (some ⟨g, offF c k, none⟩) (n + 1 - k) (c - k)]).run Try.prog w = .ok (goInt ((n - k : Nat))) w' ∧
      w'.ownsRow base 30 1 (.slice (some ⟨g, 0, none⟩) (n + 1) c) (n + 1) (vS (L.take (k + 1) ++ (L.drop k).take (n - k))) ∧ w.grownBy w' (some g) := by
  have hlen : L.length = n + 1 := by have := own_len ho; rw [vS_length] at this; omega
  have hsz : (Try.prog.info? 30).map (·.size) = some 1 := by kernel_rfl
  by_cases hkn : k = n
  · subst hkn
    refine ⟨w, ?_, ?_, World.grownBy.refl _ _⟩
    · have := run_copy_none (P := Try.prog) w 46 46 ty 30 (some ⟨g, offF c (k + 1), none⟩) (some ⟨g, offF c k, none⟩) (k + 1 - (k + 1)) (c - (k + 1)) (k + 1 - k) (c - k) Try.underlying46 hsz (by simp)
      rw [this]
      simp
    · rw [Nat.sub_self, List.take_zero, List.append_nil, List.take_of_length_le (by omega)]
      exact ho
  · rcases ho.2 with ⟨hv, h0⟩ | ⟨g', cap, cur, hv, hbg, hg, hnc, hcm, hcs, ht⟩
    · omega
    · injection hv with hA hn hc
      injection hA with hA
      injection hA with hA1
      subst hA1 hc
      have hoff1 : offF c (k + 1) = k + 1 := by unfold offF; rw [if_neg (by omega)]
      have hoff2 : offF c k = k := by unfold offF; rw [if_neg (by omega)]
      have hcsl : (vS ((L.drop k).take (n - k))).length = n - k := by rw [vS_length, List.length_take, List.length_drop]; omega
      have hsrc : ∀ j v, (vS ((L.drop k).take (n - k)))[j]? = some v → w.cell? ((⟨g, k, none⟩ : Addr).add j) = some v := by
        intro j v hj
        have hjl : j < n - k := by rw [← hcsl]; exact (List.getElem?_eq_some_iff.1 hj).1
        have e : (⟨g, k, none⟩ : Addr).add j = ⟨g, k + j, none⟩ := by unfold Addr.add; split <;> simp_all
        rw [e]
        have hc := ho.cellAt (k + j) (by omega)
        rw [hc, ← hj]
        simp only [vS, List.getElem?_map, List.getElem?_take, List.getElem?_drop, if_pos hjl]
      have hr := run_copy_row (P := Try.prog) w 46 46 ty 30 g (k + 1) (n + 1 - (k + 1)) (c - (k + 1)) ⟨g, k, none⟩ (n + 1 - k) (c - k) cur 30 (vS ((L.drop k).take (n - k))) Try.underlying46 hsz hg
        (by rw [hcsl]; show n - k = min _ _; omega) hsrc (by rw [hcsl]; omega) (vS_one _)
      rw [hoff1, hoff2, hr, hcsl]
      refine ⟨_, rfl, ⟨?_, .inr ⟨g, c, _, rfl, hbg, setRow_heap w g cur _ _ _ hg, hnc, hcm, ?_, ?_⟩⟩, ⟨rfl, rfl, rfl, by simp [World.setRow], fun q hq hne => setRow_other w g q _ (fun e => hne (by rw [e]))⟩⟩
      · rw [vS_length, List.length_append, List.length_take, List.length_take, List.length_drop]; omega
      · simp only [List.size_toArray, List.length_append, List.length_take, List.length_drop, Array.length_toList]
        rw [hcsl]
        omega
      · have hcurl : cur.toList.length = c * 1 := by rw [Array.length_toList, hcs]
        have hk1 : cur.toList.take (k + 1) = vS (L.take (k + 1)) := by
          have h2 := congrArg (List.take (k + 1)) ht
          rw [List.take_take, Nat.min_eq_left (by omega)] at h2
          rw [h2]
          simp [vS]
        simp only [List.append_assoc]
        rw [hk1, vS_append]
        have hl1 : (vS (L.take (k + 1))).length = k + 1 := by rw [vS_length, List.length_take]; omega
        rw [← List.append_assoc, List.take_append_of_le_length (by rw [List.length_append, hl1, hcsl]; omega)]
        rw [List.take_of_length_le (by rw [List.length_append, hl1, hcsl]; omega)]
theorem wp_copyF {o : Oper} {a : Act} {w w' : World} {K : Act → World → Prop} {Q : Exit → Act → World → Prop} (d s : Operand) (dT sT : TypeId) (ho : o.op = .call { callee := .builtin .copy, args := #[d, s], argTypes := #[dT, sT] })
    {v1 v2 v : Value} (hd : a.eval d = v1) (hs : a.eval s = v2) (hrun : (Builtin.copy_ #[dT, sT] o.type #[v1, v2]).run Try.prog w = .ok v w') (hk : K (a.put o.dst v) w') : o.wp Try.prog a w K Q := by
  unfold Oper.wp
  simp [execOp, ho, resolve, invoke, builtin, hd, hs, hrun, Result.andThen]
  exact hk
theorem grown_comp2 {a w w' : World} {r r' : Option Nat} (h : a.grownBy w r) (h' : w.grownBy w' r') (hr : ∀ g, r' = some g → r = some g ∨ a.heap.size ≤ g) : a.grownBy w' r :=
  ⟨h'.os.trans h.os, h'.tape.trans h.tape, h'.output.trans h.output, Nat.le_trans h.size h'.size, fun k hk hne => (h'.block k (Nat.lt_of_lt_of_le hk h.size) (fun e => by
    rcases hr k e.symm with h1 | h1
    · exact hne h1.symm
    · omega)).trans (h.block k hk hne)⟩
theorem grown_of_below {w w' : World} (h : Below w.heap.size w w') (r : Option Nat) : w.grownBy w' r := ⟨h.os, h.tape, h.output, h.size, fun k hk _ => h.block k hk⟩
theorem grown_setC {a w : World} {r : Option Nat} (h : a.grownBy w r) {p : Addr} (hp : r = some p.block ∨ a.heap.size ≤ p.block) (u : Value) : a.grownBy (w.setCell p u) r :=
  ⟨h.os, h.tape, h.output, by simpa [World.setCell] using h.size, fun k hk hne => by
    rw [Below.heap_setCell w p u k (by
      rintro rfl
      rcases hp with h1 | h1
      · exact hne h1.symm
      · omega)]
    exact h.block k hk hne⟩
theorem ins_set {α : Type} (hs : List α) (z x : α) (n k : Nat) (hn : hs.length = n) (hk : k ≤ n) : (((hs ++ [z]).take (k + 1)) ++ ((hs ++ [z]).drop k).take (n - k)).set k x = hs.take k ++ [x] ++ hs.drop k := by
  have h1 : ((hs ++ [z]).drop k).take (n - k) = hs.drop k := by
    rw [List.drop_append_of_le_length (by omega), List.take_append_of_le_length (by rw [List.length_drop]; omega), List.take_of_length_le (by rw [List.length_drop]; omega)]
  have hkl : k < (hs ++ [z]).length := by simp; omega
  rw [h1, List.take_succ_eq_append_getElem hkl]
  have h2 : (hs ++ [z]).take k = hs.take k := List.take_append_of_le_length (by omega)
  rw [h2, List.append_assoc, List.set_append_right _ _ (by rw [List.length_take]; omega), List.length_take, Nat.min_eq_left (by omega), Nat.sub_self]
  simp
theorem ins_rows {α β : Type} {hs : List α} {F : List β} {k : Nat} (hl : hs.length = F.length) (hk : k ≤ F.length) {x0 : α} {f : β} (i : Nat) (x : α) (y : β) (h1 : (hs.take k ++ [x0] ++ hs.drop k)[i]? = some x) (h2 : (F.take k ++ [f] ++ F.drop k)[i]? = some y) :
    (∃ j : Nat, hs[j]? = some x ∧ F[j]? = some y) ∨ (x = x0 ∧ y = f) := by
  have e1 : (hs.take k).length = k := by rw [List.length_take]; omega
  have e2 : (F.take k).length = k := by rw [List.length_take]; omega
  rw [List.append_assoc] at h1 h2
  rcases Nat.lt_trichotomy i k with h | h | h
  · rw [List.getElem?_append_left (by omega), List.getElem?_take_of_lt h] at h1 h2
    exact .inl ⟨i, h1, h2⟩
  · subst h
    rw [List.getElem?_append_right (by omega), e1, Nat.sub_self] at h1
    rw [List.getElem?_append_right (by omega), e2, Nat.sub_self] at h2
    simp at h1 h2
    exact .inr ⟨h1.symm, h2.symm⟩
  · obtain ⟨j, rfl⟩ : ∃ j, i = k + 1 + j := ⟨i - (k + 1), by omega⟩
    rw [List.getElem?_append_right (by omega), e1, show k + 1 + j - k = j + 1 from by omega] at h1
    rw [List.getElem?_append_right (by omega), e2, show k + 1 + j - k = j + 1 from by omega] at h2
    simp only [List.singleton_append, List.getElem?_cons_succ, List.getElem?_drop] at h1 h2
    exact .inl ⟨_, h1, h2⟩
/-- The list with the shape put in. -/
def PutP (base : Nat) (w : World) (A : Option Addr) (F : List (List C)) (e : Ending) (w' : World) : Prop :=
  ∃ A' n' c' hs', e = .returned (.slice A' n' c') ∧ OwnF base w' A' n' c' hs' F ∧ w.grownBy w' (ob A) ∧ ∀ g, ob A' = some g → ob A = some g ∨ w.heap.size ≤ g
theorem putB_same {F : List (List C)} {f : List C} {k : Nat} (hk : F.countP (fun x => ltS x f) = k) (h1 : k < F.length) (h2 : F.getD k default = f) : putB ltS F f = F := by unfold putB; rw [hk, if_pos ⟨h1, h2⟩]
theorem putB_new {F : List (List C)} {f : List C} {k : Nat} (hk : F.countP (fun x => ltS x f) = k) (h1 : ¬ (k < F.length ∧ F.getD k default = f)) : putB ltS F f = F.take k ++ [f] ++ F.drop k := by unfold putB; rw [hk, if_neg h1]
set_option maxHeartbeats 3200000 in
theorem putShape_i (A : Option Addr) (n c : Nat) (hs : List H) (F : List (List C)) (B : Option Addr) (m d : Nat) (f : List C) (base : Nat) (w : World) (ho : OwnF base w A n c hs F) (hf : CRow w (B, m, d) f) (hi : IncG ltS F)
    (hl : ∀ x ∈ F, x.length ≤ 1048576) (hm : m ≤ 1048576) (hn : n ≤ 1073741824) (hbs : base ≤ w.heap.size) :
    Calls Try.prog 122 #[.slice A n c, .slice B m d] w (PutP base w A (putB ltS F f)) := by
  obtain ⟨k, hk⟩ : ∃ k, F.countP (fun x => ltS x f) = k := ⟨_, rfl⟩
  have hkn : k ≤ n := by rw [← hk, ← ho.flen]; exact List.countP_le_length
  have hAlt := own_lt ho.own
  have hB2 := (Blk.new w 46 #[.slice A n c]).alloc (.cells #[.slice B m d] 30)
  have hB3 : Blk ((w.alloc (.cells #[.slice A n c] 46)).alloc (.cells #[.slice B m d] 30)) (w.heap.size + 1) 30 #[.slice B m d] := by simpa using Blk.new (w.alloc (.cells #[.slice A n c] 46)) 30 #[.slice B m d]
  have hb0 : Below w.heap.size w ((w.alloc (.cells #[.slice A n c] 46)).alloc (.cells #[.slice B m d] 30)) := (by (repeat (first | with_reducible exact Below.refl _ _ | with_reducible assumption | with_reducible apply bel_alloc | with_reducible apply bel_drew | with_reducible apply bel_drewN | ((with_reducible refine bel_set ?_ ?_); rotate_left; (simp <;> omega)) | (with_reducible refine bel_trans ?_ (by with_reducible assumption)))))
  obtain ⟨W0, hW0⟩ : ∃ W0, (w.alloc (.cells #[.slice A n c] 46)).alloc (.cells #[.slice B m d] 30) = W0 := ⟨_, rfl⟩
  rw [hW0] at hB2 hB3 hb0
  have HS := putSearch w.heap.size (w.heap.size + 1) A n c hs F B m d f W0 (ho.rd.below hb0) (hf.below hb0) (by simpa using hB2.cell 0) (by simpa using hB3.cell 0) hl hm (by omega) hi
  rw [hk] at HS
  have HSE := Lib.hid HS
  have HO := Lib.hid ho
  have HF := Lib.hid hf
  have HK := Lib.hid hk
  have HL := Lib.hid hl
  have HB2 := Lib.hid hB2
  have HB3 := Lib.hid hB3
  have HW := Lib.hid hW0
  have HFL := Lib.hid ho.flen
  have HA := Lib.hid hAlt
  have hz0 := hb0.size
  clear HS ho hf hk hl hB2 hB3 hW0 hAlt hi
  go_enter Try.func122, Try.ntmps122
  go_wp2_with fail
  rw [HW.out]
  refine HSE.out.mono ?_
  rintro e w1 ⟨rfl, hb1⟩
  have hb01 := bel_trans hb0 hb1
  have HX2 := Lib.hid (HB2.out.below hb1)
  have HX3 := Lib.hid (HB3.out.below hb1)
  have c2 : w1.cell? ⟨w.heap.size, 0, none⟩ = some (.slice A n c) := by simpa using HX2.out.cell 0
  have c3 : w1.cell? ⟨w.heap.size + 1, 0, none⟩ = some (.slice B m d) := by simpa using HX3.out.cell 0
  have l2 := HX2.out.lt
  have l3 := HX3.out.lt
  have HO1 := Lib.hid (HO.out.below hb01)
  have HF1 := Lib.hid (HF.out.below hb01)
  by_cases hkk : k < n
  · obtain ⟨x, t, g, off, hsx, hfx, hAg, hg, d1, hrow⟩ := HO1.out.rd.at_ hkk
    have ht : F.getD k default = t := by rw [List.getD_eq_getElem?_getD, hfx]; rfl
    have htl := HL.out t (List.mem_of_getElem? hfx)
    obtain ⟨C1, m1, k1⟩ := x
    have h1 : t.length = m1 := hrow.1
    have H1 := Lib.hid h1
    have HR := Lib.hid hrow
    have hm1 : m1 ≤ 1048576 := by omega
    have hk0 : (0 : Int) ≤ (k : Int) := by omega
    have hkI : (k : Int) < (n : Int) := by omega
    dsimp only at d1
    by_cases htf : t = f
    · have HV := Lib.hid (putB_same HK.out (by rw [HFL.out]; exact hkk) (ht.trans htf))
      have HD : Hid (decide (t = f) = true) := decide_eq_true htf
      subst hAg
      clear ht htf hsx hfx hrow h1 htl
      go_wp2_with fail
      (refine wp_region_below (by kernel_rfl) (by kernel_rfl) ?_; (repeat (first | go_big_quiet_skip | (refine quietV (v := ?_) (by rfl) rfl (fun w' hbw => ?_) ?_; rotate_left; ((try dsimp only at hbw); have hbc := (bcell hbw).1; have hbf := (bcell hbw).2; go_simp; first | done | with_reducible rfl | exact callsBB (EqualShapes_i C1 B m1 k1 m d t f _ (HR.out.2.1.below hbw) (HF1.out.2.1.below hbw) H1.out HF1.out.1 (by omega) (by omega)) HD.out hbw); simp only [List.setIfInBounds_toArray, List.set_cons_zero, List.set_cons_succ]))); refine wpQuiet_nil ?_; intro wq hbq)
      have c2q : wq.cell? ⟨w.heap.size, 0, none⟩ = some (.slice (some ⟨g, off, none⟩) n c) := by simpa using (HX2.out.below hbq).cell 0
      have l2q := (HX2.out.below hbq).lt
      clear c2 c3 l2 l3
      go_wp2_with fail
      go_ret
      exact ⟨_, n, c, hs, rfl, by rw [HV.out]; exact HO1.out.below hbq, grown_of_below (bel_trans hb01 hbq) _, fun g e => .inl e⟩
    · have HV := Lib.hid (putB_new HK.out (fun h => htf (ht.symm.trans h.2)))
      have HD : Hid (decide (t = f) = false) := decide_eq_false htf
      have HAG := Lib.hid hAg
      rw [hAg] at c2
      have hkd : decide (k < n) = true := by simp [hkk]
      clear ht htf hsx hfx hrow h1 htl hAg
      go_wp2_with fail
      (refine wp_region_below (by kernel_rfl) (by kernel_rfl) ?_; (repeat (first | go_big_quiet_skip | (refine quietV (v := ?_) (by rfl) rfl (fun w' hbw => ?_) ?_; rotate_left; ((try dsimp only at hbw); have hbc := (bcell hbw).1; have hbf := (bcell hbw).2; go_simp; first | done | with_reducible rfl | exact callsBB (EqualShapes_i C1 B m1 k1 m d t f _ (HR.out.2.1.below hbw) (HF1.out.2.1.below hbw) H1.out HF1.out.1 (by omega) (by omega)) HD.out hbw); simp only [List.setIfInBounds_toArray, List.set_cons_zero, List.set_cons_succ]))); refine wpQuiet_nil ?_; intro wq hbq)
      clear d1 hkd
      rw [← HAG.out] at c2 ⊢
      have hb0q := bel_trans hb01 hbq
      have hz1 := hb0q.size
      have HX2q := Lib.hid (HX2.out.below hbq)
      have HX3q := Lib.hid (HX3.out.below hbq)
      have HOq := Lib.hid (HO1.out.below hbq)
      have c2q : wq.cell? ⟨w.heap.size, 0, none⟩ = some (.slice A n c) := by simpa using HX2q.out.cell 0
      have z2q := HX2q.out.frozen 0
      have l2q := HX2q.out.lt
      clear c2 c3 l2 l3
      go_wp2_with (at_builtin; go_must (refine app_F _ rfl _ _ rfl base _ _ _ hs rfl (HOq.out.own.alloc _) _ _ _ [(none, 0, 0)] rfl (rd_newS _ _ _) rfl (by omega) (by simp; omega) ?_); intro A3 c5 w3 ho3 hg3 hat3; have HO3 := Lib.hid ho3; have HG3 := Lib.hid hg3; have HAT := Lib.hid hat3; have hX3 := (HX2q.out.alloc (.cells #[.slice none 0 0] 30)).grown hg3 (fun e => by have := (HA.out _ e.symm).2; omega); have e2 : w3.cell? ⟨w.heap.size, 0, none⟩ = some (.slice A n c) := (by simpa using hX3.cell 0); have f2 := hX3.frozen 0; have l4 := hX3.lt; have HX4 := Lib.hid (hX3.set_ 0 (.slice A3 (n + 1) c5)); have HY4 := Lib.hid (((HX3q.out.alloc (.cells #[.slice none 0 0] 30)).grown hg3 (fun e => by have := (HA.out _ e.symm).2; omega)).far (p := ⟨w.heap.size, 0, none⟩) (by simp) (.slice A3 (n + 1) c5)); clear hX3 ho3 hg3 hat3)
      obtain ⟨g3, hA3, hbg3, hg3l⟩ := own_at HO3.out (by omega)
      subst hA3
      have hg3n : g3 ≠ w.heap.size ∧ g3 ≠ w.heap.size + 1 := by
        rcases HAT.out with h | h
        · have := (HA.out g3 h.symm).2; omega
        · simp only [ob, Option.map_some, Option.some.injEq, World.size_alloc] at h; omega
      obtain ⟨hg3n, hg3m⟩ := hg3n
      have HO4 := Lib.hid (own_set HO3.out (p := ⟨w.heap.size, 0, none⟩) (fun g e => by simp only [ob, Option.map_some, Option.some.injEq] at e; subst e; exact hg3n) (.slice (some ⟨g3, 0, none⟩) (n + 1) c5))
      have HG4 : Hid (w.grownBy (w3.setCell ⟨w.heap.size, 0, none⟩ (.slice (some ⟨g3, 0, none⟩) (n + 1) c5)) (ob A)) :=
        grown_setC (grown_comp2 (grown_of_below (bel_alloc hb0q _) (ob A)) HG3.out (fun g h => .inl h)) (.inr (Nat.le_refl _)) _
      have HR4 : Hid (∀ x t, CRow wq x t → CRow (w3.setCell ⟨w.heap.size, 0, none⟩ (.slice (some ⟨g3, 0, none⟩) (n + 1) c5)) x t) := fun x t h =>
        ((h.below (bel_alloc (Below.refl _ _) _)).grown HG3.out (fun g e r => (h.apart HOq.out.own) g e r)).grown (grown_set (World.grownBy.refl _ (some w.heap.size)) rfl _) (fun g e r => by
          injection r with r
          obtain ⟨cur, z, h1⟩ := h.2.2 g e
          have h2 := HX2q.out
          unfold Blk at h2
          rw [r, h1] at h2
          injection h2 with h2
          injection h2 with _ h3
          exact absurd h3 (by decide))
      obtain ⟨w4, hw4⟩ : ∃ w4, w3.setCell ⟨w.heap.size, 0, none⟩ (.slice (some ⟨g3, 0, none⟩) (n + 1) c5) = w4 := ⟨_, rfl⟩
      rw [hw4] at HX4 HY4 HO4 HG4 HR4 ⊢
      have d2 : w4.cell? ⟨w.heap.size, 0, none⟩ = some (.slice (some ⟨g3, 0, none⟩) (n + 1) c5) := by simpa using HX4.out.cell 0
      have l6 := HX4.out.lt
      have hk0 : (0 : Int) ≤ (k : Int) := by omega
      obtain ⟨k1, hk1⟩ : ∃ k1 : Nat, k + 1 = k1 := ⟨_, rfl⟩
      have hk1I : (k : Int) + 1 = (k1 : Int) := by omega
      have hk1w : IntKind.i64.wrap (k1 : Int) = (k1 : Int) := Go.IntWalk.i64_in _ (by omega)
      have hs1 : ∀ w', (Instr.slice 46 (.slice (some ⟨g3, 0, none⟩) (n + 1) c5) (some (.int .i64 (k1 : Int))) none none).run Try.prog w' = .ok (.slice (some ⟨g3, offF c5 k1, none⟩) (n + 1 - k1) (c5 - k1)) w' := fun w' => run_fromF w' g3 (n + 1) c5 k1 (by omega)
      have hs2 : ∀ w', (Instr.slice 46 (.slice (some ⟨g3, 0, none⟩) (n + 1) c5) (some (.int .i64 (k : Int))) none none).run Try.prog w' = .ok (.slice (some ⟨g3, offF c5 k, none⟩) (n + 1 - k) (c5 - k)) w' := fun w' => run_fromF w' g3 (n + 1) c5 k (by omega)
      have HK1 := Lib.hid hk1
      clear hk1 hw4 e2 f2 l4
      go_wp2_with fail
      (refine wp_region_tailN (C := Gr w4 (some ⟨g3, 0, none⟩)) 7 (by kernel_rfl) (by kernel_rfl) (Gr.drawn _ _) (fun _ _ h k => h.ext k) ?_; simp only [List.take_succ_cons, List.take_zero, List.drop_succ_cons, List.drop_zero]; (repeat (first | (refine headSkip (by rfl) rfl ?_; simp only [List.setIfInBounds_toArray, List.set_cons_zero, List.set_cons_succ]) | (refine headV (v := ?_) (by rfl) rfl (fun w' hcw => ?_) ?_; rotate_left; ((try dsimp only at hcw); have hbc := hcw.cells; go_simp; first | done | with_reducible rfl | (have hcc := hcw.cell l6 (by simp [ob]; exact fun e => hg3n e.symm) 0; go_simp; first | done | with_reducible rfl)); simp only [List.setIfInBounds_toArray, List.set_cons_zero, List.set_cons_succ]))); unfold wpHead)
      refine tailK (by rfl) (fun u5 hc5 he5 K hK => ?_)
      obtain ⟨w5, hrun, ho5, hg5⟩ := run_shift u5 base g3 n c5 k (hs ++ [(none, 0, 0)]) (own_keep HO4.out he5) hkn 3
      rw [HK1.out] at hrun
      refine wp_copyF _ _ _ _ rfl rfl rfl hrun ?_
      refine hK _ _ (Gr.trans hc5 hg5) ?_
      clear hK K hrun
      simp only [Act.put, List.setIfInBounds_toArray, List.set_cons_zero, List.set_cons_succ]
      (refine fun w6 hc6 he6 => NoPanic.normal ?_)
      have HO6 := Lib.hid (own_keep ho5 he6)
      have HG6 : Hid (w4.grownBy w6 (some g3)) := hc6
      have HX6 := Lib.hid (HX4.out.grown HG6.out (fun e => by injection e with e; exact hg3n e.symm))
      have HY6 := Lib.hid (HY4.out.grown HG6.out (fun e => by injection e with e; exact hg3m e.symm))
      have b2 : w6.cell? ⟨w.heap.size, 0, none⟩ = some (.slice (some ⟨g3, 0, none⟩) (n + 1) c5) := by simpa using HX6.out.cell 0
      have b3 : w6.cell? ⟨w.heap.size + 1, 0, none⟩ = some (.slice B m d) := by simpa using HY6.out.cell 0
      have l7 := HX6.out.lt
      have l8 := HY6.out.lt
      have hck := HO6.out.cellAt k (by omega)
      have hkl : k < (vS (List.take (k + 1) (hs ++ [(none, 0, 0)]) ++ List.take (n - k) (List.drop k (hs ++ [(none, 0, 0)])))).length := by
        have := own_len HO6.out; omega
      rw [List.getElem?_eq_getElem hkl] at hck
      generalize (vS (List.take (k + 1) (hs ++ [(none, 0, 0)]) ++ List.take (n - k) (List.drop k (hs ++ [(none, 0, 0)]))))[k] = z at hck
      have hfk := HO6.out.frozenAt k
      have hg6l := own_lt HO6.out g3 rfl
      have hst := (HO6.out.stored k (.slice B m d)).1
      rw [show (vS (List.take (k + 1) (hs ++ [(none, 0, 0)]) ++ List.take (n - k) (List.drop k (hs ++ [(none, 0, 0)])))).set k (.slice B m d) = vS (hs.take k ++ [(B, m, d)] ++ hs.drop k) from by rw [← ins_set hs (none, 0, 0) (B, m, d) n k HO.out.hlen hkn]; simp [vS, List.map_set, hd]] at hst
      have HST := Lib.hid hst
      obtain ⟨hg6a, hg6b⟩ := hg6l
      have hkI2 : (k : Int) < (n : Int) + 1 := by omega
      have HRW : Hid (∀ x t, CRow wq x t → CRow (w6.setCell ⟨g3, k, none⟩ (.slice B m d)) x t) := fun x t h => by
        have h4 := HR4.out x t h
        have ne := h4.apart HO4.out
        exact (h4.grown HG6.out (fun g e r => ne g e r)).grown (grown_set (World.grownBy.refl _ (some g3)) rfl _) (fun g e r => ne g e r)
      have HGW : Hid (w.grownBy (w6.setCell ⟨g3, k, none⟩ (.slice B m d)) (ob A)) := by
        have hh : ob A = some g3 ∨ w.heap.size ≤ g3 := by
          rcases HAT.out with h | h
          · exact .inl h.symm
          · simp only [ob, Option.map_some, Option.some.injEq, World.size_alloc] at h; right; omega
        exact grown_setC (grown_comp2 HG4.out HG6.out (fun g h => by injection h with h; subst h; exact hh)) hh _
      clear hst hc5 he5 ho5 hg5 hc6 he6 d2 l6 hs1 hs2
      go_wp2_with fail
      go_ret
      refine ⟨some ⟨g3, 0, none⟩, n + 1, c5, hs.take k ++ [(B, m, d)] ++ hs.drop k, rfl, ⟨HST.out, ?_, ?_⟩, HGW.out, ?_⟩
      · rw [HV.out]; simp only [List.length_append, List.length_take, List.length_drop, List.length_cons, List.length_nil, HFL.out]; omega
      · intro i x t h1 h2
        rw [HV.out] at h2
        rcases ins_rows (by rw [HO.out.hlen, HFL.out]) (by rw [HFL.out]; exact hkn) i x t h1 h2 with ⟨j, h3, h4⟩ | ⟨h3, h4⟩
        · exact HRW.out x t (HOq.out.row j x t h3 h4)
        · subst h3 h4
          exact HRW.out _ _ (HF1.out.below hbq)
      · intro g e
        rcases HAT.out with h | h
        · exact .inl (h ▸ e)
        · rw [h] at e
          simp only [World.size_alloc, Option.some.injEq] at e
          right; omega
  · have HV := Lib.hid (putB_new HK.out (fun h => hkk (by have := h.1; rwa [HFL.out] at this)))
    have hkd : decide (k < n) = false := by simp; omega
    have hkI : ¬ (k : Int) < (n : Int) := by omega
    go_wp2_with fail
    (refine wp_region_below (by kernel_rfl) (by kernel_rfl) ?_; (repeat (first | go_big_quiet_skip | (refine quietV (v := ?_) (by rfl) rfl (fun w' hbw => ?_) ?_; rotate_left; ((try dsimp only at hbw); have hbc := (bcell hbw).1; have hbf := (bcell hbw).2; go_simp; first | done | with_reducible rfl | fail); simp only [List.setIfInBounds_toArray, List.set_cons_zero, List.set_cons_succ]))); refine wpQuiet_nil ?_; intro wq hbq)
    clear hkd hkI hkk
    have hb0q := bel_trans hb01 hbq
    have hz1 := hb0q.size
    have HX2q := Lib.hid (HX2.out.below hbq)
    have HX3q := Lib.hid (HX3.out.below hbq)
    have HOq := Lib.hid (HO1.out.below hbq)
    have c2q : wq.cell? ⟨w.heap.size, 0, none⟩ = some (.slice A n c) := by simpa using HX2q.out.cell 0
    have z2q := HX2q.out.frozen 0
    have l2q := HX2q.out.lt
    clear c2 c3 l2 l3
    go_wp2_with (at_builtin; go_must (refine app_F _ rfl _ _ rfl base _ _ _ hs rfl (HOq.out.own.alloc _) _ _ _ [(none, 0, 0)] rfl (rd_newS _ _ _) rfl (by omega) (by simp; omega) ?_); intro A3 c5 w3 ho3 hg3 hat3; have HO3 := Lib.hid ho3; have HG3 := Lib.hid hg3; have HAT := Lib.hid hat3; have hX3 := (HX2q.out.alloc (.cells #[.slice none 0 0] 30)).grown hg3 (fun e => by have := (HA.out _ e.symm).2; omega); have e2 : w3.cell? ⟨w.heap.size, 0, none⟩ = some (.slice A n c) := (by simpa using hX3.cell 0); have f2 := hX3.frozen 0; have l4 := hX3.lt; have HX4 := Lib.hid (hX3.set_ 0 (.slice A3 (n + 1) c5)); have HY4 := Lib.hid (((HX3q.out.alloc (.cells #[.slice none 0 0] 30)).grown hg3 (fun e => by have := (HA.out _ e.symm).2; omega)).far (p := ⟨w.heap.size, 0, none⟩) (by simp) (.slice A3 (n + 1) c5)); clear hX3 ho3 hg3 hat3)
    obtain ⟨g3, hA3, hbg3, hg3l⟩ := own_at HO3.out (by omega)
    subst hA3
    have hg3n : g3 ≠ w.heap.size ∧ g3 ≠ w.heap.size + 1 := by
      rcases HAT.out with h | h
      · have := (HA.out g3 h.symm).2; omega
      · simp only [ob, Option.map_some, Option.some.injEq, World.size_alloc] at h; omega
    obtain ⟨hg3n, hg3m⟩ := hg3n
    have HO4 := Lib.hid (own_set HO3.out (p := ⟨w.heap.size, 0, none⟩) (fun g e => by simp only [ob, Option.map_some, Option.some.injEq] at e; subst e; exact hg3n) (.slice (some ⟨g3, 0, none⟩) (n + 1) c5))
    have HG4 : Hid (w.grownBy (w3.setCell ⟨w.heap.size, 0, none⟩ (.slice (some ⟨g3, 0, none⟩) (n + 1) c5)) (ob A)) :=
      grown_setC (grown_comp2 (grown_of_below (bel_alloc hb0q _) (ob A)) HG3.out (fun g h => .inl h)) (.inr (Nat.le_refl _)) _
    have HR4 : Hid (∀ x t, CRow wq x t → CRow (w3.setCell ⟨w.heap.size, 0, none⟩ (.slice (some ⟨g3, 0, none⟩) (n + 1) c5)) x t) := fun x t h =>
      ((h.below (bel_alloc (Below.refl _ _) _)).grown HG3.out (fun g e r => (h.apart HOq.out.own) g e r)).grown (grown_set (World.grownBy.refl _ (some w.heap.size)) rfl _) (fun g e r => by
        injection r with r
        obtain ⟨cur, z, h1⟩ := h.2.2 g e
        have h2 := HX2q.out
        unfold Blk at h2
        rw [r, h1] at h2
        injection h2 with h2
        injection h2 with _ h3
        exact absurd h3 (by decide))
    obtain ⟨w4, hw4⟩ : ∃ w4, w3.setCell ⟨w.heap.size, 0, none⟩ (.slice (some ⟨g3, 0, none⟩) (n + 1) c5) = w4 := ⟨_, rfl⟩
    rw [hw4] at HX4 HY4 HO4 HG4 HR4 ⊢
    have d2 : w4.cell? ⟨w.heap.size, 0, none⟩ = some (.slice (some ⟨g3, 0, none⟩) (n + 1) c5) := by simpa using HX4.out.cell 0
    have l6 := HX4.out.lt
    have hk0 : (0 : Int) ≤ (k : Int) := by omega
    obtain ⟨k1, hk1⟩ : ∃ k1 : Nat, k + 1 = k1 := ⟨_, rfl⟩
    have hk1I : (k : Int) + 1 = (k1 : Int) := by omega
    have hk1w : IntKind.i64.wrap (k1 : Int) = (k1 : Int) := Go.IntWalk.i64_in _ (by omega)
    have hs1 : ∀ w', (Instr.slice 46 (.slice (some ⟨g3, 0, none⟩) (n + 1) c5) (some (.int .i64 (k1 : Int))) none none).run Try.prog w' = .ok (.slice (some ⟨g3, offF c5 k1, none⟩) (n + 1 - k1) (c5 - k1)) w' := fun w' => run_fromF w' g3 (n + 1) c5 k1 (by omega)
    have hs2 : ∀ w', (Instr.slice 46 (.slice (some ⟨g3, 0, none⟩) (n + 1) c5) (some (.int .i64 (k : Int))) none none).run Try.prog w' = .ok (.slice (some ⟨g3, offF c5 k, none⟩) (n + 1 - k) (c5 - k)) w' := fun w' => run_fromF w' g3 (n + 1) c5 k (by omega)
    have HK1 := Lib.hid hk1
    clear hk1 hw4 e2 f2 l4
    go_wp2_with fail
    (refine wp_region_tailN (C := Gr w4 (some ⟨g3, 0, none⟩)) 7 (by kernel_rfl) (by kernel_rfl) (Gr.drawn _ _) (fun _ _ h k => h.ext k) ?_; simp only [List.take_succ_cons, List.take_zero, List.drop_succ_cons, List.drop_zero]; (repeat (first | (refine headSkip (by rfl) rfl ?_; simp only [List.setIfInBounds_toArray, List.set_cons_zero, List.set_cons_succ]) | (refine headV (v := ?_) (by rfl) rfl (fun w' hcw => ?_) ?_; rotate_left; ((try dsimp only at hcw); have hbc := hcw.cells; go_simp; first | done | with_reducible rfl | (have hcc := hcw.cell l6 (by simp [ob]; exact fun e => hg3n e.symm) 0; go_simp; first | done | with_reducible rfl)); simp only [List.setIfInBounds_toArray, List.set_cons_zero, List.set_cons_succ]))); unfold wpHead)
    refine tailK (by rfl) (fun u5 hc5 he5 K hK => ?_)
    obtain ⟨w5, hrun, ho5, hg5⟩ := run_shift u5 base g3 n c5 k (hs ++ [(none, 0, 0)]) (own_keep HO4.out he5) hkn 3
    rw [HK1.out] at hrun
    refine wp_copyF _ _ _ _ rfl rfl rfl hrun ?_
    refine hK _ _ (Gr.trans hc5 hg5) ?_
    clear hK K hrun
    simp only [Act.put, List.setIfInBounds_toArray, List.set_cons_zero, List.set_cons_succ]
    (refine fun w6 hc6 he6 => NoPanic.normal ?_)
    have HO6 := Lib.hid (own_keep ho5 he6)
    have HG6 : Hid (w4.grownBy w6 (some g3)) := hc6
    have HX6 := Lib.hid (HX4.out.grown HG6.out (fun e => by injection e with e; exact hg3n e.symm))
    have HY6 := Lib.hid (HY4.out.grown HG6.out (fun e => by injection e with e; exact hg3m e.symm))
    have b2 : w6.cell? ⟨w.heap.size, 0, none⟩ = some (.slice (some ⟨g3, 0, none⟩) (n + 1) c5) := by simpa using HX6.out.cell 0
    have b3 : w6.cell? ⟨w.heap.size + 1, 0, none⟩ = some (.slice B m d) := by simpa using HY6.out.cell 0
    have l7 := HX6.out.lt
    have l8 := HY6.out.lt
    have hck := HO6.out.cellAt k (by omega)
    have hkl : k < (vS (List.take (k + 1) (hs ++ [(none, 0, 0)]) ++ List.take (n - k) (List.drop k (hs ++ [(none, 0, 0)])))).length := by
      have := own_len HO6.out; omega
    rw [List.getElem?_eq_getElem hkl] at hck
    generalize (vS (List.take (k + 1) (hs ++ [(none, 0, 0)]) ++ List.take (n - k) (List.drop k (hs ++ [(none, 0, 0)]))))[k] = z at hck
    have hfk := HO6.out.frozenAt k
    have hg6l := own_lt HO6.out g3 rfl
    have hst := (HO6.out.stored k (.slice B m d)).1
    rw [show (vS (List.take (k + 1) (hs ++ [(none, 0, 0)]) ++ List.take (n - k) (List.drop k (hs ++ [(none, 0, 0)])))).set k (.slice B m d) = vS (hs.take k ++ [(B, m, d)] ++ hs.drop k) from by rw [← ins_set hs (none, 0, 0) (B, m, d) n k HO.out.hlen hkn]; simp [vS, List.map_set, hd]] at hst
    have HST := Lib.hid hst
    obtain ⟨hg6a, hg6b⟩ := hg6l
    have hkI2 : (k : Int) < (n : Int) + 1 := by omega
    have HRW : Hid (∀ x t, CRow wq x t → CRow (w6.setCell ⟨g3, k, none⟩ (.slice B m d)) x t) := fun x t h => by
      have h4 := HR4.out x t h
      have ne := h4.apart HO4.out
      exact (h4.grown HG6.out (fun g e r => ne g e r)).grown (grown_set (World.grownBy.refl _ (some g3)) rfl _) (fun g e r => ne g e r)
    have HGW : Hid (w.grownBy (w6.setCell ⟨g3, k, none⟩ (.slice B m d)) (ob A)) := by
      have hh : ob A = some g3 ∨ w.heap.size ≤ g3 := by
        rcases HAT.out with h | h
        · exact .inl h.symm
        · simp only [ob, Option.map_some, Option.some.injEq, World.size_alloc] at h; right; omega
      exact grown_setC (grown_comp2 HG4.out HG6.out (fun g h => by injection h with h; subst h; exact hh)) hh _
    clear hst hc5 he5 ho5 hg5 hc6 he6 d2 l6 hs1 hs2
    go_wp2_with fail
    go_ret
    refine ⟨some ⟨g3, 0, none⟩, n + 1, c5, hs.take k ++ [(B, m, d)] ++ hs.drop k, rfl, ⟨HST.out, ?_, ?_⟩, HGW.out, ?_⟩
    · rw [HV.out]; simp only [List.length_append, List.length_take, List.length_drop, List.length_cons, List.length_nil, HFL.out]; omega
    · intro i x t h1 h2
      rw [HV.out] at h2
      rcases ins_rows (by rw [HO.out.hlen, HFL.out]) (by rw [HFL.out]; exact hkn) i x t h1 h2 with ⟨j, h3, h4⟩ | ⟨h3, h4⟩
      · exact HRW.out x t (HOq.out.row j x t h3 h4)
      · subst h3 h4
        exact HRW.out _ _ (HF1.out.below hbq)
    · intro g e
      rcases HAT.out with h | h
      · exact .inl (h ▸ e)
      · rw [h] at e
        simp only [World.size_alloc, Option.some.injEq] at e
        right; omega
end Go.Proofs.Ytglilkneipfheaa

/- The shapes with one cell more: the program. -/
namespace Go.Proofs.Ytglilkneipfheaa
open Go.RowKit
set_option linter.unusedVariables false
attribute [local go_sem ↓] Go.wp_at_zero Go.wp_at_succ

theorem sides_i (x y : Int) (w : World) (h : -100 ≤ x ∧ x ≤ 100 ∧ -100 ≤ y ∧ y ≤ 100) : Calls Try.prog 123 #[.agg #[.int .i64 x, .int .i64 y]] w (RetS w 59 2 (vC (sidesV (x, y)))) := by
  obtain ⟨h1, h2, h3, h4⟩ := h
  have e1 : IntKind.i64.wrap (y - 1) = y - 1 := Go.IntWalk.i64_in _ (by omega)
  have e2 : IntKind.i64.wrap (x - 1) = x - 1 := Go.IntWalk.i64_in _ (by omega)
  have e3 : IntKind.i64.wrap (x + 1) = x + 1 := Go.IntWalk.i64_in _ (by omega)
  have e4 : IntKind.i64.wrap (y + 1) = y + 1 := Go.IntWalk.i64_in _ (by omega)
  have ho : ((w.alloc (.cells #[.int .i64 x, .int .i64 y] 59)).alloc (.cells #[.int .i64 x, .int .i64 (y - 1), .int .i64 (x - 1), .int .i64 y, .int .i64 (x + 1), .int .i64 y, .int .i64 x, .int .i64 (y + 1)] 59)).ownsRow w.heap.size 59 2 (.slice (some ⟨w.heap.size + 1, 0, none⟩) 4 4) 4 (vC (sidesV (x, y))) := by
    have := own_new (w.alloc (.cells #[.int .i64 x, .int .i64 y] 59)) 59 2 4 #[.int .i64 x, .int .i64 (y - 1), .int .i64 (x - 1), .int .i64 y, .int .i64 (x + 1), .int .i64 y, .int .i64 x, .int .i64 (y + 1)] rfl (by simp [maxLen]) (base := w.heap.size) (by simp)
    simpa [sidesV, vC] using this
  have HO := Lib.hid ho
  clear ho
  go_enter Try.func123, Try.ntmps123
  go_wp2
  go_ret
  exact ⟨_, 4, 4, by simp, HO.out, (by (repeat (first | with_reducible exact Below.refl _ _ | with_reducible assumption | with_reducible apply bel_alloc | with_reducible apply bel_drew | with_reducible apply bel_drewN | ((with_reducible refine bel_set ?_ ?_); rotate_left; (simp <;> omega)) | (with_reducible refine bel_trans ?_ (by with_reducible assumption)))))⟩
set_option maxRecDepth 100000 in
set_option maxHeartbeats 6400000 in
theorem extensions_i (A : Option Addr) (n c : Nat) (xs : List C) (w : World) (hr : Rd w A (vC xs)) (hl : xs.length = n) (hs : isShape xs = true) :
    Calls Try.prog 121 #[.slice A n c] w (RetF w (extV xs)) := by
  have hn8 := (shape_len hs).2
  have hV : extV xs = extTo sidesV xs n := by unfold extV; rw [hl]
  have HV := Lib.hid hV
  have HL := Lib.hid hl
  have HR := Lib.hid hr
  have HSH := Lib.hid hs
  rw [hl] at hn8
  have hnn : n ≤ 1099511627776 := by omega
  have hn7 : n ≤ 1048576 := by omega
  clear hl hr hs hV
  go_enter Try.func121, Try.ntmps121
  go_wp2
  go_loopw [11, 3] (fun e11 e3 wr => ∃ (k q cq : Nat) (D : Option Addr) (hs : List H), k ≤ n ∧ e11 = .int .i64 k ∧ e3 = .slice D q cq ∧ OwnF w.heap.size wr D q cq hs (extTo sidesV xs k) ∧ Below w.heap.size w wr) (fun e11 _ _ => n - (intOf e11).toNat)
  case atStart => exact ⟨0, 0, 0, none, [], Nat.zero_le _, rfl, rfl, OwnF.nil _ _, Below.refl _ _⟩
  case round =>
    obtain ⟨k, q, cq, D, hs, hk, rfl, rfl, hO, hb⟩ := hrel
    by_cases hlt : k < n
    · have hkl : k < xs.length := by rw [HL.out]; exact hlt
      have hk0 : (0 : Int) ≤ (k : Int) := by omega
      have hk1 : (k : Int) < (n : Int) := by omega
      obtain ⟨g, off, hA, hg, d1, d2⟩ := RdC.at_ (HR.out.below hb) hkl
      subst hA
      have hon := shape_onB HSH.out _ (List.getElem_mem hkl)
      have hst := extTo_succ sidesV xs k hkl
      have hsl := extTo_len sidesV (fun _ => rfl) xs k (by omega)
      obtain ⟨p, hp⟩ : ∃ p, xs[k].1 = p := ⟨_, rfl⟩
      obtain ⟨r, hrr⟩ : ∃ r, xs[k].2 = r := ⟨_, rfl⟩
      rw [show xs[k] = (p, r) from Prod.ext hp hrr] at hon hst
      rw [hp] at d1
      rw [hrr] at d2
      have hsv := sidesV_small hon
      have hpr : -1 ≤ p ∧ p ≤ 8 ∧ -1 ≤ r ∧ r ≤ 8 := by simp [onB] at hon; omega
      have hfine := extTo_fine sidesV xs k
      obtain ⟨F0, hF0⟩ : ∃ F0, extTo sidesV xs k = F0 := ⟨_, rfl⟩
      rw [hF0] at hst hsl hO hfine
      have HST := Lib.hid hst
      have HFI := Lib.hid hfine
      have HSV := Lib.hid hsv
      have HO := Lib.hid hO
      have hFl : F0.length ≤ 4 * k := hsl
      have HPR := Lib.hid hpr
      clear hst hfine hsv hO hp hrr hon hF0 hpr hsl
      go_wp2_with fail
      refine (sides_i p r _ (by have := HPR.out; omega)).mono ?_
      rintro e w1 ⟨S, ms, cs, rfl, hoS, hb1⟩
      have hms : ms = 4 := by have := own_len hoS; rw [vC_length] at this; simp [sidesV] at this; omega
      subst hms
      have HCS := Lib.hid (CRow.of_own hoS)
      have HO1 := Lib.hid (HO.out.below (bel_trans (bel_alloc (Below.refl _ _) _) hb1))
      have hb01 : Below w.heap.size w w1 := (by (repeat (first | with_reducible exact Below.refl _ _ | with_reducible assumption | with_reducible apply bel_alloc | with_reducible apply bel_drew | with_reducible apply bel_drewN | ((with_reducible refine bel_set ?_ ?_); rotate_left; (simp <;> omega)) | (with_reducible refine bel_trans ?_ (by with_reducible assumption)))))
      clear hoS HO
      go_wp2_with fail
      go_loopw [18, 3] (fun e18 e3 wr => ∃ (j q cq : Nat) (D : Option Addr) (hs : List H) (F : List (List C)), j ≤ 4 ∧ e18 = .int .i64 j ∧ e3 = .slice D q cq ∧ F = ((sidesV (p, r)).take j).foldl (extStep xs) F0 ∧ OwnF w.heap.size wr D q cq hs F ∧ FineF F ∧ F.length ≤ 4 * k + j ∧ CRow wr (S, 4, cs) (sidesV (p, r)) ∧ Below w.heap.size w wr) (fun e18 _ _ => 4 - (intOf e18).toNat)
      case atStart => exact ⟨0, q, cq, D, hs, F0, Nat.zero_le _, rfl, rfl, rfl, HO1.out, HFI.out, by omega, HCS.out, hb01⟩
      case round =>
        clear HO1 HCS hb01 hb hb1 d1 d2 hg
        obtain ⟨j, q, cq, D, hs, F, hj, rfl, rfl, hF, hO, hfi, hfl, hcr, hb⟩ := hrel
        by_cases hj4 : j < 4
        · have hjl : j < (sidesV (p, r)).length := hj4
          have hj0 : (0 : Int) ≤ (j : Int) := by omega
          have hj1 : (j : Int) < 4 := by omega
          obtain ⟨g2, o2, hS, hg2, d1, d2⟩ := RdC.at_ hcr.2.1 hjl
          simp only at hS
          have hsm := HSV.out _ (List.getElem_mem hjl)
          have hstep : ((sidesV (p, r)).take (j + 1)).foldl (extStep xs) F0 = extStep xs F (sidesV (p, r))[j] := by
            rw [List.take_succ_eq_append_getElem hjl, List.foldl_append, ← hF]
            rfl
          obtain ⟨x, hx⟩ : ∃ x, (sidesV (p, r))[j].1 = x := ⟨_, rfl⟩
          obtain ⟨y, hy⟩ : ∃ y, (sidesV (p, r))[j].2 = y := ⟨_, rfl⟩
          rw [show (sidesV (p, r))[j] = (x, y) from Prod.ext hx hy] at hsm hstep
          rw [hx] at d1
          rw [hy] at d2
          have hsmall := app_small HSH.out hsm
          have HSM := Lib.hid hsmall
          have HF := Lib.hid hF
          have HO := Lib.hid hO
          have HFI2 := Lib.hid hfi
          have HCR := Lib.hid hcr
          have HQF := Lib.hid hO.flen
          have hq33 : q ≤ 4 * k + j := by rw [← hO.flen]; exact hfl
          have HX := Lib.hid (HR.out.below hb)
          subst hS
          clear hF hO hfi hcr hx hy hsm hsmall
          cases hh : hasC xs x y with
          | true =>
            have HN : Hid (((sidesV (p, r)).take (j + 1)).foldl (extStep xs) F0 = F) := by show _ = F; rw [hstep]; unfold extStep; simp only [hh, if_true]
            have HH := Lib.hid hh
            clear hh hstep
            go_wp2_with fail
            refine (HasCell_i _ n c xs x y _ ((HX.out).alloc _) HL.out hnn).mono ?_
            rw [show hasC xs x y = true from HH.out]
            rintro e w2 ⟨rfl, hb2⟩
            have hb3 := bel_trans (bel_alloc (Below.refl _ _) _) hb2
            go_wp2_with fail
            exact ⟨⟨j + 1, q, cq, D, hs, F, by omega, by go_num, rfl, HN.out.symm, HO.out.below hb3, HFI2.out, by have := HQF.out; omega, HCR.out.below hb3, bel_trans hb hb3⟩, by simp [intOf]; omega⟩
          | false =>
            have HH := Lib.hid hh
            go_wp2_with fail
            refine (HasCell_i _ n c xs x y _ ((HX.out).alloc _) HL.out hnn).mono ?_
            rw [show hasC xs x y = false from HH.out]
            rintro e w2 ⟨rfl, hb2⟩
            have hb3 := bel_trans (bel_alloc (Below.refl _ _) _) hb2
            have hCB := (Blk.new wr 59 #[.int .i64 x, .int .i64 y]).below hb2
            have z0 : w2.cell? ⟨wr.heap.size, 0, none⟩ = some (.int .i64 x) := by simpa using hCB.cell 0
            have z1 : w2.cell? ⟨wr.heap.size, 1, none⟩ = some (.int .i64 y) := by simpa using hCB.cell 1
            have zl := hCB.lt
            clear hCB d1 d2
            go_wp2_with fail
            refine wp_region_rg 7 rfl (by kernel_rfl) ?_
            (refine rgT (i := 0) (v := ?_) rfl rfl (by kernel_rfl) (by kernel_rfl) (by kernel_rfl) (by rfl) (fun w' hcw => ?_) ?_; rotate_left; ((try dsimp only at hcw); have hbc := hcw.cells; go_simp; first | done | with_reducible rfl); simp only [List.setIfInBounds_toArray, List.set_cons_zero, List.set_cons_succ])
            (refine rgT (i := 2) (v := ?_) rfl rfl (by kernel_rfl) (by kernel_rfl) (by kernel_rfl) (by rfl) (fun w' hcw => ?_) ?_; rotate_left; ((try dsimp only at hcw); have hbc := hcw.cells; go_simp; first | done | with_reducible rfl); simp only [List.setIfInBounds_toArray, List.set_cons_zero, List.set_cons_succ])
            refine rgK_two (i := 1) (k := 3) (by kernel_rfl) rfl rfl rfl rfl (fun u1 hc1 he1 K hK => ?_) (fun u1 hc1 he1 K hK => ?_)
            · go_simp
              refine (copyCells_i2 _ n c xs _ ((HX.out).below (bel_trans hb3 hc1)) HL.out hn7).mono ?_
              rintro e u2 ⟨C1, m1, cD, rfl, hod, hbd⟩
              obtain rfl : n = m1 := by have := own_len hod; rw [vC_length] at this; have := HL.out; omega
              have hec : Below w2.heap.size w2 u2 := bel_trans hc1 hbd
              refine hK _ _ hec ?_
              clear hK K
              have HOD := Lib.hid (own_base (base' := w2.heap.size) hod hc1.size)
              clear hod
              refine rgK_one (i := 3) (by kernel_rfl) rfl rfl (fun u3 hc3 he3 K hK => ?_)
              go_simp
              refine hK _ _ (bel_alloc hc3 _) ?_
              clear hK K
              refine rgK_one (i := 4) (by kernel_rfl) rfl rfl (fun u4 hc4 he4 K hK => ?_)
              refine wpC _ _ _ rfl w2.heap.size C1 n cD xs rfl (own_keep (own_keep HOD.out (bel_trans he3 (bel_alloc (Below.refl _ _) _))) he4) _ 1 1 [(x, y)] rfl ((rd_newC u3 _ x y).below he4) rfl (by omega) (hc4.size) ?_
              intro D2 c2 w5 ho5 hg5 _
              have hx5 : Below w2.heap.size w2 w5 := bel_app hc4 hg5 (fun g h => (own_lt HOD.out g h).1)
              refine hK _ _ hx5 ?_
              clear hK K
              simp only [Act.put, List.setIfInBounds_toArray]
              have HO5 := Lib.hid ho5
              clear ho5 hg5
              refine rgK_one (i := 5) (by kernel_rfl) rfl rfl (fun u5 hc5 he5 K hK => ?_)
              go_simp
              refine (corner_i D2 (n + 1) c2 (xs ++ [(x, y)]) _ (Rd.of_own (own_keep HO5.out he5)) (by simp [HL.out]) (by omega) (by omega) HSM.out).mono ?_
              rintro e w6 ⟨E, m, cE, rfl, ho6, hb6⟩
              have hx6 : Below w2.heap.size w2 w6 := bel_trans hc5 hb6
              refine hK _ _ hx6 ?_
              clear hK K
              have HO6 := Lib.hid ho6
              clear ho6
              refine rgK_one (i := 6) (by kernel_rfl) rfl rfl (fun u6 hc6 he6 K hK => ?_)
              go_simp
              refine hK _ _ hc6 ?_
              clear hK K
              refine ⟨by kernel_rfl, fun wz hcz hez => NoPanic.normal ?_⟩
              have HO7 := Lib.hid (own_keep (own_keep HO6.out he6) hez)
              have hbz : Below w2.heap.size w2 wz := hcz
              have hb9 : Below w.heap.size w wz := bel_trans hb (bel_trans hb3 hbz)
              have hb39 : Below wr.heap.size wr wz := bel_trans hb3 hbz
              clear HO6 HO5 HOD hc4 he4 hx5 hc5 he5 hb6 hx6 hc6 he6 hcz hez z0 z1 zl
              have hml : (cornI (xs ++ [(x, y)])).length = m := by have := own_len HO7.out; rw [vC_length] at this; omega
              have hm13 : m ≤ 9 := by have := cornI_len (xs ++ [(x, y)]); rw [hml] at this; simp [HL.out] at this; omega
              have hdef : extStep xs F (x, y) = if isShape (cornI (xs ++ [(x, y)])) then putG ltS F (cornI (xs ++ [(x, y)])) else F := by unfold extStep; simp only [hh, Bool.false_eq_true, if_false]
              rw [hdef] at hstep
              obtain ⟨s2, hs2⟩ : ∃ s2, cornI (xs ++ [(x, y)]) = s2 := ⟨_, rfl⟩
              rw [hs2] at hml hstep HO7
              have HML := Lib.hid hml
              cases hsh : isShape s2 with
              | true =>
                rw [hsh, if_pos rfl] at hstep
                have HSTEP := Lib.hid hstep
                have HS2 := Lib.hid hsh
                clear hstep hsh hml hs2 hdef hh
                go_wp2_with fail
                refine (IsShape_i E m cE s2 _ (Rd.of_own HO7.out) HML.out (by omega)).mono ?_
                rw [HS2.out]
                rintro e w7 ⟨rfl, hb7⟩
                have HOF := Lib.hid (HO.out.below (bel_trans hb39 hb7))
                have HOE := Lib.hid (own_keep HO7.out hb7)
                have HPB : Hid (putB ltS F s2 = putG ltS F s2) := putB_eq ltS_sto HFI2.out.1 s2
                go_wp2_with fail
                refine (putShape_i D q cq hs F E m cE s2 w.heap.size _ HOF.out (CRow.of_own HOE.out) HFI2.out.1 (fun x hx => by have := HFI2.out.len x hx; omega) (by omega) (by omega) (by have := hb9.size; have := hb7.size; omega)).mono ?_
                rw [HPB.out, ← HSTEP.out]
                rintro e w8 ⟨D3, q3, c3, hs3, rfl, hO8, hg8, hD8⟩
                have HO8 := Lib.hid hO8
                have HG8 := Lib.hid hg8
                have hq8 : q3 ≤ 4 * k + (j + 1) := by
                  rw [← hO8.flen, HSTEP.out]
                  have := putG_len (lt := ltS) F s2
                  have := HQF.out
                  omega
                have HFL8 : Hid ((((sidesV (p, r)).take (j + 1)).foldl (extStep xs) F0).length ≤ 4 * k + (j + 1)) := by show _ ≤ _; rw [hO8.flen]; exact hq8
                have HCR8 := Lib.hid (((HCR.out.below hb39).below hb7).grown hg8 (fun g e => ((HCR.out.below hb39).below hb7).apart HOF.out.own g e))
                have HB8 : Hid (Below w.heap.size w w8) := bel_app (bel_trans hb9 hb7) hg8 (fun g e => (own_lt HOF.out.own g e).1)
                have HF8 : Hid (FineF (((sidesV (p, r)).take (j + 1)).foldl (extStep xs) F0)) := by show FineF _; rw [HSTEP.out]; exact HFI2.out.put HS2.out
                clear hO8 hg8 hD8
                go_wp2_with fail
                exact ⟨⟨j + 1, q3, c3, D3, hs3, _, by omega, by go_num, rfl, rfl, HO8.out, HF8.out, HFL8.out, HCR8.out, HB8.out⟩, by simp [intOf]; omega⟩
              | false =>
                rw [hsh] at hstep
                have HSTEP : Hid (((sidesV (p, r)).take (j + 1)).foldl (extStep xs) F0 = F) := by show _ = F; rw [hstep]; rfl
                have HS2 := Lib.hid hsh
                clear hstep hsh hml hs2 hdef hh
                go_wp2_with fail
                refine (IsShape_i E m cE s2 _ (Rd.of_own HO7.out) HML.out (by omega)).mono ?_
                rw [HS2.out]
                rintro e w7 ⟨rfl, hb7⟩
                go_wp2_with fail
                exact ⟨⟨j + 1, q, cq, D, hs, F, by omega, by go_num, rfl, HSTEP.out.symm, HO.out.below (bel_trans hb39 hb7), HFI2.out, by have := HQF.out; omega, HCR.out.below (bel_trans hb39 hb7), bel_trans hb9 hb7⟩, by simp [intOf]; omega⟩
            · go_simp
              refine hK _ _ (bel_alloc hc1 _) ?_
              clear hK K
              refine rgK_one (i := 1) (by kernel_rfl) rfl rfl (fun u3 hc3 he3 K hK => ?_)
              go_simp
              refine (copyCells_i2 _ n c xs _ ((HX.out).below (bel_trans hb3 hc3)) HL.out hn7).mono ?_
              rintro e u2 ⟨C1, m1, cD, rfl, hod, hbd⟩
              obtain rfl : n = m1 := by have := own_len hod; rw [vC_length] at this; have := HL.out; omega
              have hec : Below w2.heap.size w2 u2 := bel_trans hc3 hbd
              refine hK _ _ hec ?_
              clear hK K
              have HOD := Lib.hid (own_base (base' := w2.heap.size) hod hc3.size)
              clear hod
              refine rgK_one (i := 4) (by kernel_rfl) rfl rfl (fun u4 hc4 he4 K hK => ?_)
              refine wpC _ _ _ rfl w2.heap.size C1 n cD xs rfl (own_keep HOD.out he4) _ 1 1 [(x, y)] rfl ((((rd_newC u1 _ x y).below he3).below hbd).below he4) rfl (by omega) (hc4.size) ?_
              intro D2 c2 w5 ho5 hg5 _
              have hx5 : Below w2.heap.size w2 w5 := bel_app hc4 hg5 (fun g h => (own_lt HOD.out g h).1)
              refine hK _ _ hx5 ?_
              clear hK K
              simp only [Act.put, List.setIfInBounds_toArray]
              have HO5 := Lib.hid ho5
              clear ho5 hg5
              refine rgK_one (i := 5) (by kernel_rfl) rfl rfl (fun u5 hc5 he5 K hK => ?_)
              go_simp
              refine (corner_i D2 (n + 1) c2 (xs ++ [(x, y)]) _ (Rd.of_own (own_keep HO5.out he5)) (by simp [HL.out]) (by omega) (by omega) HSM.out).mono ?_
              rintro e w6 ⟨E, m, cE, rfl, ho6, hb6⟩
              have hx6 : Below w2.heap.size w2 w6 := bel_trans hc5 hb6
              refine hK _ _ hx6 ?_
              clear hK K
              have HO6 := Lib.hid ho6
              clear ho6
              refine rgK_one (i := 6) (by kernel_rfl) rfl rfl (fun u6 hc6 he6 K hK => ?_)
              go_simp
              refine hK _ _ hc6 ?_
              clear hK K
              refine ⟨by kernel_rfl, fun wz hcz hez => NoPanic.normal ?_⟩
              have HO7 := Lib.hid (own_keep (own_keep HO6.out he6) hez)
              have hbz : Below w2.heap.size w2 wz := hcz
              have hb9 : Below w.heap.size w wz := bel_trans hb (bel_trans hb3 hbz)
              have hb39 : Below wr.heap.size wr wz := bel_trans hb3 hbz
              clear HO6 HO5 HOD hc4 he4 hx5 hc5 he5 hb6 hx6 hc6 he6 hcz hez z0 z1 zl
              have hml : (cornI (xs ++ [(x, y)])).length = m := by have := own_len HO7.out; rw [vC_length] at this; omega
              have hm13 : m ≤ 9 := by have := cornI_len (xs ++ [(x, y)]); rw [hml] at this; simp [HL.out] at this; omega
              have hdef : extStep xs F (x, y) = if isShape (cornI (xs ++ [(x, y)])) then putG ltS F (cornI (xs ++ [(x, y)])) else F := by unfold extStep; simp only [hh, Bool.false_eq_true, if_false]
              rw [hdef] at hstep
              obtain ⟨s2, hs2⟩ : ∃ s2, cornI (xs ++ [(x, y)]) = s2 := ⟨_, rfl⟩
              rw [hs2] at hml hstep HO7
              have HML := Lib.hid hml
              cases hsh : isShape s2 with
              | true =>
                rw [hsh, if_pos rfl] at hstep
                have HSTEP := Lib.hid hstep
                have HS2 := Lib.hid hsh
                clear hstep hsh hml hs2 hdef hh
                go_wp2_with fail
                refine (IsShape_i E m cE s2 _ (Rd.of_own HO7.out) HML.out (by omega)).mono ?_
                rw [HS2.out]
                rintro e w7 ⟨rfl, hb7⟩
                have HOF := Lib.hid (HO.out.below (bel_trans hb39 hb7))
                have HOE := Lib.hid (own_keep HO7.out hb7)
                have HPB : Hid (putB ltS F s2 = putG ltS F s2) := putB_eq ltS_sto HFI2.out.1 s2
                go_wp2_with fail
                refine (putShape_i D q cq hs F E m cE s2 w.heap.size _ HOF.out (CRow.of_own HOE.out) HFI2.out.1 (fun x hx => by have := HFI2.out.len x hx; omega) (by omega) (by omega) (by have := hb9.size; have := hb7.size; omega)).mono ?_
                rw [HPB.out, ← HSTEP.out]
                rintro e w8 ⟨D3, q3, c3, hs3, rfl, hO8, hg8, hD8⟩
                have HO8 := Lib.hid hO8
                have HG8 := Lib.hid hg8
                have hq8 : q3 ≤ 4 * k + (j + 1) := by
                  rw [← hO8.flen, HSTEP.out]
                  have := putG_len (lt := ltS) F s2
                  have := HQF.out
                  omega
                have HFL8 : Hid ((((sidesV (p, r)).take (j + 1)).foldl (extStep xs) F0).length ≤ 4 * k + (j + 1)) := by show _ ≤ _; rw [hO8.flen]; exact hq8
                have HCR8 := Lib.hid (((HCR.out.below hb39).below hb7).grown hg8 (fun g e => ((HCR.out.below hb39).below hb7).apart HOF.out.own g e))
                have HB8 : Hid (Below w.heap.size w w8) := bel_app (bel_trans hb9 hb7) hg8 (fun g e => (own_lt HOF.out.own g e).1)
                have HF8 : Hid (FineF (((sidesV (p, r)).take (j + 1)).foldl (extStep xs) F0)) := by show FineF _; rw [HSTEP.out]; exact HFI2.out.put HS2.out
                clear hO8 hg8 hD8
                go_wp2_with fail
                exact ⟨⟨j + 1, q3, c3, D3, hs3, _, by omega, by go_num, rfl, rfl, HO8.out, HF8.out, HFL8.out, HCR8.out, HB8.out⟩, by simp [intOf]; omega⟩
              | false =>
                rw [hsh] at hstep
                have HSTEP : Hid (((sidesV (p, r)).take (j + 1)).foldl (extStep xs) F0 = F) := by show _ = F; rw [hstep]; rfl
                have HS2 := Lib.hid hsh
                clear hstep hsh hml hs2 hdef hh
                go_wp2_with fail
                refine (IsShape_i E m cE s2 _ (Rd.of_own HO7.out) HML.out (by omega)).mono ?_
                rw [HS2.out]
                rintro e w7 ⟨rfl, hb7⟩
                go_wp2_with fail
                exact ⟨⟨j + 1, q, cq, D, hs, F, by omega, by go_num, rfl, HSTEP.out.symm, HO.out.below (bel_trans hb39 hb7), HFI2.out, by have := HQF.out; omega, HCR.out.below (bel_trans hb39 hb7), bel_trans hb9 hb7⟩, by simp [intOf]; omega⟩
        · obtain rfl : j = 4 := by omega
          have HN : Hid (extTo sidesV xs (k + 1) = F) := by show _ = F; rw [HST.out, hF]; rfl
          rw [← HN.out] at hO
          have HO := Lib.hid hO
          clear hO hF
          go_wp2_with fail
          exact ⟨⟨k + 1, q, cq, D, hs, by omega, by go_num, rfl, HO.out, hb⟩, by simp [intOf]; omega⟩
    · obtain rfl : k = n := by omega
      rw [← HV.out] at hO
      have HO := Lib.hid hO
      have hk1 : ¬ (k : Int) < (k : Int) := by omega
      clear hO
      go_wp2
      go_ret
      exact ⟨D, q, cq, hs, rfl, HO.out, hb⟩
end Go.Proofs.Ytglilkneipfheaa

/- Maps whose keys are cells: made, asked, written. -/
namespace Go.Proofs.Ytglilkneipfheaa
open Go.RowKit
set_option linter.unusedVariables false
def cellV (c : C) : Value := .agg #[.int .i64 c.1, .int .i64 c.2]
def kv (p : C × Value) : Value × Value := (cellV p.1, p.2)
/-- Block b is a map with these entries, the elder ones first. -/
def MapC (w : World) (b : Nat) (es : List (C × Value)) : Prop := ∃ (arr : Array MapEntry) (clock : Nat), w.heap[b]? = some (.map arr clock) ∧ arr.toList.map (fun e => (e.key, e.val)) = es.map kv
def lookC (es : List (C × Value)) (c : C) : Option Value := (es.find? fun p => p.1 == c).map (·.2)
theorem lookC_nil (c : C) : lookC [] c = none := rfl
theorem lookC_app {es : List (C × Value)} {c d : C} {v : Value} : lookC (es ++ [(c, v)]) d = (lookC es d).or (if c == d then some v else none) := by
  unfold lookC
  rw [List.find?_append]
  cases List.find? (fun p => p.1 == d) es with
  | some p => rfl
  | none =>
    rw [List.find?_cons]
    cases h : c == d <;> simp [h]
section
variable {w w' : World} {b : Nat} {es : List (C × Value)}
theorem MapC.made (w : World) : MapC (w.alloc (.map #[] 0)) w.heap.size [] := ⟨#[], 0, heap_alloc_new w _, rfl⟩
theorem MapC.lt (h : MapC w b es) : b < w.heap.size := by
  obtain ⟨arr, cl, hb, _⟩ := h
  exact (Array.getElem?_eq_some_iff.1 hb).1
theorem MapC.at_ (h : MapC w b es) (hb : w'.heap[b]? = w.heap[b]?) : MapC w' b es := by
  obtain ⟨arr, cl, h1, h2⟩ := h
  exact ⟨arr, cl, hb.trans h1, h2⟩
theorem MapC.below (h : MapC w b es) (hb : Below w.heap.size w w') : MapC w' b es := h.at_ (hb.block b h.lt)
theorem MapC.alloc (h : MapC w b es) (o : Obj) : MapC (w.alloc o) b es := h.at_ (Below.heap_alloc w o b h.lt)
theorem MapC.grown {row : Option Nat} (h : MapC w b es) (hg : w.grownBy w' row) (hne : some b ≠ row) : MapC w' b es := h.at_ (hg.block b h.lt hne)
theorem MapC.set_ (h : MapC w b es) (p : Addr) (hp : b ≠ p.block) (v : Value) : MapC (w.setCell p v) b es := h.at_ (Below.heap_setCell w p v b hp)
end
/-- How many entries a map has. -/
def mapSz (w : World) (b : Nat) : Nat := match w.heap[b]? with
  | some (.map arr _) => arr.size
  | _ => 0
theorem MapC.sz {w : World} {b : Nat} {es : List (C × Value)} (h : MapC w b es) : mapSz w b = es.length := by
  obtain ⟨arr, cl, hb, hl⟩ := h
  unfold mapSz
  rw [hb]
  have := congrArg List.length hl
  simpa using this
theorem equal_cell (w : World) (c d : C) : (Op.equal 59 (cellV c) (cellV d)).run Try.prog w = .ok (c == d) w := by
  obtain ⟨a, b⟩ := c
  obtain ⟨a', b'⟩ := d
  have h := eq_cell w a b a' b'
  simp only [binOp] at h
  have e : ((a, b) == (a', b')) = (a == a' && b == b') := rfl
  rw [e]
  unfold cellV
  generalize hX : Sem.run Try.prog (Op.equal 59 (.agg #[.int .i64 a, .int .i64 b]) (.agg #[.int .i64 a', .int .i64 b'])) w = X at h ⊢
  simp [go_sem, hX] at h
  cases X <;> simp_all [Result.andThen]
theorem check_cell (e : Bool) (c : C) (w : World) : (Instr.checkKey e 10000 59 (cellV c)).run Try.prog w = .ok () w := by
  obtain ⟨a, b⟩ := c
  kernel_rfl
/-- Where a key stands. -/
def posC (es : List (C × Value)) (c : C) (i : Nat) : Option (Nat × Value) :=
  match es with
  | [] => none
  | p :: t => if c == p.1 then some (i, p.2) else posC t c (i + 1)
theorem run_asking (c : C) (w : World) : ∀ (l : List MapEntry) (es : List (C × Value)) (i : Nat), l.map (fun e => (e.key, e.val)) = es.map kv →
    (Instr.findAsking 59 (cellV c) l i).run Try.prog w = .ok (posC es c i) w
  | [], es, i, h => by
    cases es with
    | nil => rfl
    | cons p t => simp at h
  | e :: l, es, i, h => by
    cases es with
    | nil => simp at h
    | cons p t =>
      simp only [List.map_cons, List.cons.injEq, kv, Prod.mk.injEq] at h
      obtain ⟨⟨hk, hv⟩, ht⟩ := h
      simp only [Instr.findAsking, Sem.run_bind, hk, equal_cell, Result.andThen_ok, posC]
      cases c == p.1 with
      | true => simp [hv]
      | false => simpa using run_asking c w l t (i + 1) ht
theorem run_find (c : C) (w : World) (l : List MapEntry) (es : List (C × Value)) (h : l.map (fun e => (e.key, e.val)) = es.map kv) :
    (Instr.findKey 59 (cellV c) l).run Try.prog w = .ok (posC es c 0) w := by
  have hu := run_underlying Try.underlying59 w
  unfold Instr.findKey
  rw [Sem.run_bind, hu, Result.andThen_ok]
  cases l with
  | nil =>
    cases es with
    | nil => rfl
    | cons p t => simp at h
  | cons e t => exact run_asking c w (e :: t) es 0 h
theorem posC_look (es : List (C × Value)) (c : C) : ∀ i, (posC es c i).map (·.2) = lookC es c := by
  induction es with
  | nil => intro i; rfl
  | cons p t ih =>
    intro i
    unfold posC lookC
    rw [List.find?_cons, show (p.1 == c) = (c == p.1) from by rw [Bool.eq_iff_iff, beq_iff_eq, beq_iff_eq]; exact eq_comm]
    cases h : c == p.1 with
    | true => rfl
    | false => simpa [lookC] using ih (i + 1)
section
variable {w : World} {b : Nat} {es : List (C × Value)} {T e : TypeId}
theorem run_lookC (h : MapC w b es) (ht : Try.prog.underlying T = some (.map 59 e)) {z : Value} (hz : (zeroValue e).run Try.prog w = .ok z w) (c : C) (ok : Bool) :
    (Instr.lookup T (.map (some b)) (cellV c) ok).run Try.prog w = .ok (if ok then .tuple #[(lookC es c).getD z, .bool (lookC es c).isSome] else (lookC es c).getD z) w := by
  obtain ⟨arr, cl, hb, hl⟩ := h
  have hp := posC_look es c 0
  simp only [Instr.lookup, Sem.run_bind, run_underlying ht, Result.andThen_ok, MapKept.run_getObj_map hb, check_cell, run_find c w _ es hl, Sem.run_pure]
  cases hq : posC es c 0 with
  | none =>
    rw [hq] at hp
    simp only [Option.map_none] at hp
    rw [← hp]
    simp [hz]
  | some q =>
    obtain ⟨i, v⟩ := q
    rw [hq] at hp
    simp only [Option.map_some] at hp
    rw [← hp]
    simp
theorem posC_some {c : C} {i : Nat} {v : Value} : ∀ {es : List (C × Value)} {k : Nat}, posC es c k = some (i, v) → k ≤ i ∧ es[i - k]? = some (c, v)
  | [], k, h => by cases h
  | p :: t, k, h => by
    unfold posC at h
    cases hc : c == p.1 with
    | true =>
      rw [hc, if_pos rfl] at h
      injection h with h
      injection h with h1 h2
      subst h1 h2
      have : c = p.1 := by simpa using hc
      rw [this]
      simp
    | false =>
      rw [hc, if_neg (by simp)] at h
      obtain ⟨h1, h2⟩ := posC_some h
      refine ⟨by omega, ?_⟩
      rw [show i - k = (i - (k + 1)) + 1 from by omega, List.getElem?_cons_succ]
      exact h2
/-- A new key. -/
theorem run_updC (h : MapC w b es) (ht : Try.prog.underlying T = some (.map 59 e)) (c : C) (v : Value) (hn : lookC es c = none) :
    ∃ w', (Instr.mapUpdate T (.map (some b)) (cellV c) v).run Try.prog w = .ok () w' ∧ MapC w' b (es ++ [(c, v)]) ∧ w.grownBy w' (some b) ∧ w'.heap.size = w.heap.size := by
  obtain ⟨arr, cl, hb, hl⟩ := h
  have hp := posC_look es c 0
  have hq : posC es c 0 = none := by
    cases hq : posC es c 0 with
    | none => rfl
    | some q => rw [hq, hn] at hp; cases hp
  have hrun : (Instr.mapUpdate T (.map (some b)) (cellV c) v).run Try.prog w = .ok () { w with heap := w.heap.setIfInBounds b (.map (arr.push { key := cellV c, val := v, born := cl }) (cl + 1)) } := by
    simp only [Instr.mapUpdate, Sem.run_bind, run_underlying ht, Result.andThen_ok, MapKept.run_getObj_map hb, check_cell, run_find c w _ es hl, hq]
    exact MapKept.run_setObj_map _ hb
  have hlt := (Array.getElem?_eq_some_iff.1 hb).1
  refine ⟨_, hrun, ⟨arr.push { key := cellV c, val := v, born := cl }, cl + 1, ?_, ?_⟩, ⟨rfl, rfl, rfl, by simp, fun k hk hne => ?_⟩, by simp⟩
  · simp [hlt]
  · simp only [Array.toList_push, List.map_append, hl]
    rfl
  · have : b ≠ k := fun e => hne (by rw [e])
    simp [Array.getElem?_setIfInBounds_ne this]
/-- A key that is there, with the value that it has. -/
theorem run_updC_same (h : MapC w b es) (ht : Try.prog.underlying T = some (.map 59 e)) (c : C) (v : Value) (hn : lookC es c = some v) :
    ∃ w', (Instr.mapUpdate T (.map (some b)) (cellV c) v).run Try.prog w = .ok () w' ∧ MapC w' b es ∧ w.grownBy w' (some b) ∧ w'.heap.size = w.heap.size := by
  obtain ⟨arr, cl, hb, hl⟩ := h
  have hp := posC_look es c 0
  obtain ⟨i, hq⟩ : ∃ i, posC es c 0 = some (i, v) := by
    cases hq : posC es c 0 with
    | none => rw [hq, hn] at hp; cases hp
    | some q => rw [hq, hn] at hp; simp at hp; exact ⟨q.1, by rw [← hp]⟩
  obtain ⟨_, hi⟩ := posC_some hq
  rw [Nat.sub_zero] at hi
  have hlen : arr.toList.length = es.length := by have := congrArg List.length hl; simpa using this
  have hie : i < es.length := (List.getElem?_eq_some_iff.1 hi).1
  have hia : i < arr.size := by have := hlen; rw [Array.length_toList] at this; omega
  have hki : (arr[i].key, arr[i].val) = (cellV c, v) := by
    have := congrArg (fun l => l[i]?) hl
    simp only [List.getElem?_map, hi, Option.map_some, kv] at this
    rw [List.getElem?_eq_getElem (by rw [Array.length_toList]; exact hia)] at this
    simpa using this
  injection hki with hk1 hk2
  have hst : (Instr.keyThatStays (((arr[i]?).map (·.key)).getD (cellV c)) (cellV c)).run Try.prog w = .ok (cellV c) w := by
    rw [Array.getElem?_eq_getElem hia]
    simp only [Option.map_some, Option.getD_some, hk1]
    unfold Instr.keyThatStays
    rw [if_pos (by simp [Instr.sameBits, cellV])]
    rfl
  have hrun : (Instr.mapUpdate T (.map (some b)) (cellV c) v).run Try.prog w = .ok () { w with heap := w.heap.setIfInBounds b (.map (arr.modify i fun e => { e with key := cellV c, val := v }) cl) } := by
    simp only [Instr.mapUpdate, Sem.run_bind, run_underlying ht, Result.andThen_ok, MapKept.run_getObj_map hb, check_cell, run_find c w _ es hl, hq, hst]
    exact MapKept.run_setObj_map _ hb
  have hlt := (Array.getElem?_eq_some_iff.1 hb).1
  refine ⟨_, hrun, ⟨arr.modify i fun e => { e with key := cellV c, val := v }, cl, ?_, ?_⟩, ⟨rfl, rfl, rfl, by simp, fun k hk hne => ?_⟩, by simp⟩
  · simp [hlt]
  · rw [← hl]
    apply List.ext_getElem?
    intro j
    simp only [List.getElem?_map, Array.getElem?_toList, Array.getElem?_modify]
    by_cases hij : i = j
    · subst hij
      rw [if_pos rfl, Array.getElem?_eq_getElem hia]
      simp [hk1, hk2]
    · rw [if_neg hij]
  · have : b ≠ k := fun e => hne (by rw [e])
    simp [Array.getElem?_setIfInBounds_ne this]
end
section
variable {w : World} {o : Oper} {a : Act} {K : Act → World → Prop} {Q : Exit → Act → World → Prop} {b : Nat} {es : List (C × Value)} {T e : TypeId}
/-- At the operation: a new key. -/
theorem wpUpdC (m x v : Operand) (hop : o.op = .mapUpdate T m x v ∨ o.op = .insert T m x v) (h : MapC w b es) (ht : Try.prog.underlying T = some (.map 59 e)) (c : C) (val : Value)
    (hm : a.eval m = .map (some b)) (hx : a.eval x = cellV c) (hv : a.eval v = val) (hn : lookC es c = none)
    (hK : ∀ w', MapC w' b (es ++ [(c, val)]) → w.grownBy w' (some b) → w'.heap.size = w.heap.size → K (a.put o.dst undef) w') : o.wp Try.prog a w K Q := by
  obtain ⟨w', hrun, h1, h2, h3⟩ := run_updC h ht c val hn
  unfold Oper.wp
  rcases hop with hop | hop <;> simp [execOp, hop, hm, hx, hv, hrun, Result.andThen, Oper.upon] <;> exact hK w' h1 h2 h3
theorem wpUpdC_same (m x v : Operand) (hop : o.op = .mapUpdate T m x v ∨ o.op = .insert T m x v) (h : MapC w b es) (ht : Try.prog.underlying T = some (.map 59 e)) (c : C) (val : Value)
    (hm : a.eval m = .map (some b)) (hx : a.eval x = cellV c) (hv : a.eval v = val) (hn : lookC es c = some val)
    (hK : ∀ w', MapC w' b es → w.grownBy w' (some b) → w'.heap.size = w.heap.size → K (a.put o.dst undef) w') : o.wp Try.prog a w K Q := by
  obtain ⟨w', hrun, h1, h2, h3⟩ := run_updC_same h ht c val hn
  unfold Oper.wp
  rcases hop with hop | hop <;> simp [execOp, hop, hm, hx, hv, hrun, Result.andThen, Oper.upon] <;> exact hK w' h1 h2 h3
theorem wpList_updC {ops : Array Oper} {rest : List Oper} (hgd : o.guard = none) (m x v : Operand) (hop : o.op = .mapUpdate T m x v ∨ o.op = .insert T m x v) (h : MapC w b es) (ht : Try.prog.underlying T = some (.map 59 e)) (c : C) (val : Value)
    (hm : a.eval m = .map (some b)) (hx : a.eval x = cellV c) (hv : a.eval v = val) (hn : lookC es c = none)
    (hK : ∀ w', MapC w' b (es ++ [(c, val)]) → w.grownBy w' (some b) → w'.heap.size = w.heap.size → wpList Try.prog ops Q rest (a.put o.dst undef) w') : wpList Try.prog ops Q (o :: rest) a w :=
  wpList_plain hgd fun K hK' => wpUpdC m x v hop h ht c val hm hx hv hn fun w' h1 h2 h3 => hK' _ _ (hK w' h1 h2 h3)
theorem wpList_updC_same {ops : Array Oper} {rest : List Oper} (hgd : o.guard = none) (m x v : Operand) (hop : o.op = .mapUpdate T m x v ∨ o.op = .insert T m x v) (h : MapC w b es) (ht : Try.prog.underlying T = some (.map 59 e)) (c : C) (val : Value)
    (hm : a.eval m = .map (some b)) (hx : a.eval x = cellV c) (hv : a.eval v = val) (hn : lookC es c = some val)
    (hK : ∀ w', MapC w' b es → w.grownBy w' (some b) → w'.heap.size = w.heap.size → wpList Try.prog ops Q rest (a.put o.dst undef) w') : wpList Try.prog ops Q (o :: rest) a w :=
  wpList_plain hgd fun K hK' => wpUpdC_same m x v hop h ht c val hm hx hv hn fun w' h1 h2 h3 => hK' _ _ (hK w' h1 h2 h3)
end
end Go.Proofs.Ytglilkneipfheaa

/- The places around a shape: the program. -/
namespace Go.Proofs.Ytglilkneipfheaa
open Go.RowKit
set_option linter.unusedVariables false
attribute [local go_sem ↓] Go.wp_at_zero Go.wp_at_succ

def oneE (c : C) : C × Value := (c, .int .i64 1)
theorem look_ones (F : List C) (c : C) : lookC (F.map oneE) c = if hasC F c.1 c.2 then some (.int .i64 1) else none := by
  induction F with
  | nil => simp [lookC, hasC]
  | cons d F ih =>
    unfold lookC at ih ⊢
    rw [List.map_cons, List.find?_cons]
    have e : ((oneE d).1 == c) = (d.1 == c.1 && d.2 == c.2) := rfl
    rw [e]
    have e2 : hasC (d :: F) c.1 c.2 = ((d.1 == c.1 && d.2 == c.2) || hasC F c.1 c.2) := rfl
    rw [e2]
    cases h : (d.1 == c.1 && d.2 == c.2) with
    | true => rfl
    | false => simpa using ih
set_option maxRecDepth 100000 in
set_option maxHeartbeats 6400000 in
theorem NeighbourCells_i (A : Option Addr) (n c : Nat) (xs : List C) (w : World) (hr : Rd w A (vC xs)) (hl : xs.length = n) (hs : isShape xs = true) :
    Calls Try.prog 93 #[.slice A n c] w (Ret w (.int .i64 (nbN xs))) := by
  have hn8 := (shape_len hs).2
  have hV : nbN xs = ((nbTo sidesV xs n).length : Nat) := by unfold nbN; rw [if_pos hs, hl, nb_same]
  have HV := Lib.hid hV
  have HL := Lib.hid hl
  have HR := Lib.hid hr
  have HSH := Lib.hid hs
  rw [hl] at hn8
  have hnn : n ≤ 1099511627776 := by omega
  have hmm := @run_makeMap Try.prog
  clear hl hr hs hV
  go_enter Try.func93, Try.ntmps93
  go_wp2_with fail
  refine (IsShape_i A n c xs _ HR.out HL.out hnn).mono ?_
  rw [HSH.out]
  rintro e w1 ⟨rfl, hb1⟩
  have HI1 := Lib.hid (MapC.made w1)
  have hbw1 : Below w.heap.size w (w1.alloc (.map #[] 0)) := bel_alloc hb1 _
  have hbz := hb1.size
  obtain ⟨b, hbb⟩ : ∃ b, w1.heap.size = b := ⟨_, rfl⟩
  have HBB := Lib.hid hbb
  go_wp2_with fail
  rw [hbb] at HI1
  go_loopw [14] (fun e14 wr => ∃ (k : Nat), k ≤ n ∧ e14 = .int .i64 k ∧ MapC wr b ((nbTo sidesV xs k).map oneE) ∧ Below w.heap.size w wr) (fun e14 _ => n - (intOf e14).toNat)
  case atStart => exact ⟨0, Nat.zero_le _, rfl, HI1.out, hbw1⟩
  case round =>
    clear HI1 hbw1
    obtain ⟨k, hk, rfl, hO, hb⟩ := hrel
    by_cases hlt : k < n
    · have hkl : k < xs.length := by rw [HL.out]; exact hlt
      have hk0 : (0 : Int) ≤ (k : Int) := by omega
      have hk1 : (k : Int) < (n : Int) := by omega
      obtain ⟨g, off, hA, hg, d1, d2⟩ := RdC.at_ (HR.out.below hb) hkl
      subst hA
      have hon := shape_onB HSH.out _ (List.getElem_mem hkl)
      have hst := nbTo_succ sidesV xs k hkl
      have hsl := nbTo_len sidesV (fun _ => rfl) xs k (by omega)
      obtain ⟨p, hp⟩ : ∃ p, xs[k].1 = p := ⟨_, rfl⟩
      obtain ⟨r, hrr⟩ : ∃ r, xs[k].2 = r := ⟨_, rfl⟩
      rw [show xs[k] = (p, r) from Prod.ext hp hrr] at hon hst
      rw [hp] at d1
      rw [hrr] at d2
      have hpr : -1 ≤ p ∧ p ≤ 8 ∧ -1 ≤ r ∧ r ≤ 8 := by simp [onB] at hon; omega
      obtain ⟨F0, hF0⟩ : ∃ F0, nbTo sidesV xs k = F0 := ⟨_, rfl⟩
      rw [hF0] at hst hsl hO
      have HST := Lib.hid hst
      have HO := Lib.hid hO
      have HPR := Lib.hid hpr
      clear hst hO hp hrr hon hF0 hpr
      go_wp2_with fail
      refine (sides_i p r _ (by have := HPR.out; omega)).mono ?_
      rintro e w2 ⟨S, ms, cs, rfl, hoS, hb2⟩
      have hms : ms = 4 := by have := own_len hoS; rw [vC_length] at this; simp [sidesV] at this; omega
      subst hms
      have HCS := Lib.hid (Rd.of_own hoS)
      have HSL := Lib.hid (fun g h => (own_lt hoS g h).1)
      have HO1 := Lib.hid (HO.out.below (bel_trans (bel_alloc (Below.refl _ _) _) hb2))
      have hb01 : Below w.heap.size w w2 := (by (repeat (first | with_reducible exact Below.refl _ _ | with_reducible assumption | with_reducible apply bel_alloc | with_reducible apply bel_drew | with_reducible apply bel_drewN | ((with_reducible refine bel_set ?_ ?_); rotate_left; (simp <;> omega)) | (with_reducible refine bel_trans ?_ (by with_reducible assumption)))))
      have HNE : Hid (∀ g, ob S = some g → some b ≠ some g) := fun g e r => by
        have h1 := (own_lt hoS g e).1
        have h2 := HO.out.lt
        simp at h1
        injection r with r
        omega
      clear hoS HO
      go_wp2_with fail
      go_loopw [21] (fun e21 wr => ∃ (j : Nat) (F : List C), j ≤ 4 ∧ e21 = .int .i64 j ∧ F = ((sidesV (p, r)).take j).foldl (nbStep xs) F0 ∧ MapC wr b (F.map oneE) ∧ Rd wr S (vC (sidesV (p, r))) ∧ Below w.heap.size w wr) (fun e21 _ => 4 - (intOf e21).toNat)
      case atStart => exact ⟨0, F0, Nat.zero_le _, rfl, rfl, HO1.out, HCS.out, hb01⟩
      case round =>
        clear HO1 HCS hb01 hb hb2 d1 d2 hg HSL
        obtain ⟨j, F, hj, rfl, hF, hO, hcr, hb⟩ := hrel
        by_cases hj4 : j < 4
        · have hjl : j < (sidesV (p, r)).length := hj4
          have hj0 : (0 : Int) ≤ (j : Int) := by omega
          have hj1 : (j : Int) < 4 := by omega
          obtain ⟨g2, o2, hS, hg2, d1, d2⟩ := RdC.at_ hcr hjl
          have hstep : ((sidesV (p, r)).take (j + 1)).foldl (nbStep xs) F0 = nbStep xs F (sidesV (p, r))[j] := by
            rw [List.take_succ_eq_append_getElem hjl, List.foldl_append, ← hF]
            rfl
          obtain ⟨x, hx⟩ : ∃ x, (sidesV (p, r))[j].1 = x := ⟨_, rfl⟩
          obtain ⟨y, hy⟩ : ∃ y, (sidesV (p, r))[j].2 = y := ⟨_, rfl⟩
          rw [show (sidesV (p, r))[j] = (x, y) from Prod.ext hx hy] at hstep
          rw [hx] at d1
          rw [hy] at d2
          have HO := Lib.hid hO
          have HCR := Lib.hid hcr
          have HX := Lib.hid (HR.out.below hb)
          have hrl : ∀ w', Below wr.heap.size wr w' → Rd w' S (vC (sidesV (p, r))) := fun w' hb => hcr.below hb
          have HRL := Lib.hid hrl
          subst hS
          have hlk := look_ones F (x, y)
          clear hF hO hcr hx hy hrl
          cases hh : hasC xs x y with
          | true =>
            have HN : Hid (((sidesV (p, r)).take (j + 1)).foldl (nbStep xs) F0 = F) := by show _ = F; rw [hstep]; unfold nbStep; simp only [hh, if_true]
            have HH := Lib.hid hh
            clear hh hstep hlk
            go_wp2_with fail
            refine (HasCell_i _ n c xs x y _ ((HX.out).alloc _) HL.out hnn).mono ?_
            rw [show hasC xs x y = true from HH.out]
            rintro e w3 ⟨rfl, hb2⟩
            have hb3 := bel_trans (bel_alloc (Below.refl _ _) _) hb2
            go_wp2_with fail
            exact ⟨⟨j + 1, F, by omega, by go_num, HN.out.symm, HO.out.below hb3, HRL.out _ hb3, bel_trans hb hb3⟩, by simp [intOf]; omega⟩
          | false =>
            have HH := Lib.hid hh
            have HLK := Lib.hid hlk
            have HSTEP := Lib.hid hstep
            clear hh hlk hstep
            go_wp2_with fail
            refine (HasCell_i _ n c xs x y _ ((HX.out).alloc _) HL.out hnn).mono ?_
            rw [show hasC xs x y = false from HH.out]
            rintro e w3 ⟨rfl, hb2⟩
            have hb3 := bel_trans (bel_alloc (Below.refl _ _) _) hb2
            have hCB := (Blk.new wr 59 #[.int .i64 x, .int .i64 y]).below hb2
            have z0 : w3.cell? ⟨wr.heap.size, 0, none⟩ = some (.int .i64 x) := by simpa using hCB.cell 0
            have z1 : w3.cell? ⟨wr.heap.size, 1, none⟩ = some (.int .i64 y) := by simpa using hCB.cell 1
            have zl := hCB.lt
            have HM3 := Lib.hid (HO.out.below hb3)
            have HC3 := Lib.hid (HRL.out _ hb3)
            have hbb3 := bel_trans hb hb3
            have hbge : w.heap.size ≤ b := by rw [← HBB.out]; exact hbz
            clear hCB d1 d2
            go_wp2_with fail
            cases hm : hasC F x y with
            | true =>
              have hlk := HLK.out
              simp only [hm, if_true] at hlk
              obtain ⟨w4, hrun, hM4, hg4, hz4⟩ := run_updC_same (T := 103) HM3.out Try.underlying103 (x, y) (.int .i64 1) hlk
              have HN : Hid (((sidesV (p, r)).take (j + 1)).foldl (nbStep xs) F0 = F) := by show _ = F; rw [HSTEP.out]; unfold nbStep; simp only [HH.out, hm, if_true, Bool.false_eq_true, if_false]
              simp only [cellV] at hrun
              rw [hrun]
              have HM4 := Lib.hid hM4
              have HC4 := Lib.hid (HC3.out.grown hg4 (fun g e r => HNE.out g e r.symm))
              have hb4 : Below w.heap.size w w4 := bel_grown hbb3 hg4 (fun k e => by injection e with e; omega)
              clear hrun hM4 hg4 hlk hm
              go_wp2_with fail
              exact ⟨⟨j + 1, F, by omega, by go_num, HN.out.symm, HM4.out, HC4.out, hb4⟩, by simp [intOf]; omega⟩
            | false =>
              have hlk := HLK.out
              simp only [hm, Bool.false_eq_true, if_false] at hlk
              obtain ⟨w4, hrun, hM4, hg4, hz4⟩ := run_updC (T := 103) HM3.out Try.underlying103 (x, y) (.int .i64 1) hlk
              have HN : Hid (((sidesV (p, r)).take (j + 1)).foldl (nbStep xs) F0 = F ++ [(x, y)]) := by show _ = F ++ _; rw [HSTEP.out]; unfold nbStep; simp only [HH.out, hm, Bool.false_eq_true, if_false]
              simp only [cellV] at hrun
              rw [hrun]
              have HM4 : Hid (MapC w4 b ((F ++ [(x, y)]).map oneE)) := by
                show MapC _ _ _
                rw [List.map_append]
                exact hM4
              have HC4 := Lib.hid (HC3.out.grown hg4 (fun g e r => HNE.out g e r.symm))
              have hb4 : Below w.heap.size w w4 := bel_grown hbb3 hg4 (fun k e => by injection e with e; omega)
              clear hrun hM4 hg4 hlk hm
              go_wp2_with fail
              exact ⟨⟨j + 1, F ++ [(x, y)], by omega, by go_num, HN.out.symm, HM4.out, HC4.out, hb4⟩, by simp [intOf]; omega⟩
        · obtain rfl : j = 4 := by omega
          have hFe : F = nbTo sidesV xs (k + 1) := by rw [HST.out, hF]; rfl
          rw [hFe] at hO
          have HO := Lib.hid hO
          clear hF hO hFe hcr
          go_wp2_with fail
          exact ⟨⟨k + 1, by omega, by go_num, HO.out, hb⟩, by simp [intOf]; omega⟩
    · obtain rfl : k = n := by omega
      have HO := Lib.hid hO
      have hk1 : ¬ (k : Int) < (k : Int) := by omega
      clear hO
      go_wp2_with fail
      have hrun : (Builtin.len_ #[103] 3 #[.map (some b)]).run Try.prog wr = .ok (.int .i64 ((nbTo sidesV xs k).length : Nat)) wr := by
        obtain ⟨arr, cl, h1, h2⟩ := HO.out
        have h3 : arr.size = (nbTo sidesV xs k).length := by have := congrArg List.length h2; simpa using this
        rw [← h3]
        exact run_len_map _ _ _ _ _ _ (by kernel_rfl) h1
      rw [hrun]
      clear hrun
      go_wp2_with fail
      go_ret
      exact ⟨by rw [HV.out]; rfl, hb⟩
end Go.Proofs.Ytglilkneipfheaa
