/- The order of a snake. -/
import Derived.Test.YtemmbpmgfjodnaaShape
import Derived.Test.YtemmbpmgfjodnaaSnake
import Derived.Test.YtemmbpmgfjodnaaSnakeN
import Derived.Test.YtemmbpmgfjodnaaEnds
import Derived.Test.YtemmbpmgfjodnaaGrowS
import Derived.Test.YtemmbpmgfjodnaaQreg
import Derived.Outline
import Derived.WalkLawsBesides
import Derived.WalkSpells
import Derived.BigQuiet
import Derived.Deep.QuietTactic
import Derived.Deep.RegionHeld3
import Derived.Deep.RegionWith
import Derived.Deep.DeepCutAuto
import Derived.Deep.CutBlock
import Derived.Deep.DrawnRows
namespace Go.Proofs.Ytemmbpmgfjodnaa
open Go.RowKit
set_option linter.unusedVariables false
attribute [local go_sem ↓] Go.wp_at_zero Go.wp_at_succ

theorem copyCells_i (A : Option Addr) (n c : Nat) (xs : List C) (w : World) (hr : Rd w A (vC xs)) (hl : xs.length = n) (hn : n ≤ 1099511627776) :
    Calls Try.prog 78 #[.slice A n c] w (RetS w 60 2 (vC xs)) := by
  have HL := Lib.hid hl
  clear hl
  go_enter Try.func78, Try.ntmps78
  go_wp2_with (at_builtin; go_must (refine app_C _ rfl _ _ rfl w.heap.size none 0 0 [] rfl (own_nil _ _ _ _) _ _ _ xs rfl hr HL.out (by omega) (by omega) ?_); intro A' c' w' hown' hg' hat'; simp only [Nat.zero_add, List.nil_append] at hown'; have HO := Lib.hid hown'; have HB := Lib.hid (bel_app (Below.refl w.heap.size w) hg' (fun g h => by cases h)); clear hown' hg' hat')
  go_ret
  exact ⟨_, _, _, rfl, HO.out, HB.out⟩
theorem snakeOrder_no {xs : List C} (h : isSnake xs = false) : snakeOrder xs = [] := by unfold snakeOrder; rw [h]; rfl
theorem snakeOrder_one {xs : List C} (h : isSnake xs = true) (h1 : xs.length = 1) : snakeOrder xs = xs := by unfold snakeOrder; rw [h, if_pos rfl, if_pos h1]
theorem snakeOrder_more {xs : List C} (h : isSnake xs = true) (h1 : xs.length ≠ 1) : snakeOrder xs = walkBy xs (xs.length - 1) := by unfold snakeOrder; rw [h, if_pos rfl, if_neg h1]
theorem ends_first {xs : List C} (h : isSnake xs = true) (hl : 2 ≤ xs.length) : ∃ h : 0 < (ends xs).length, (ends xs)[0] = e0 xs := by
  have h1 := ends_ne h hl
  have h2 : 0 < (ends xs).length := List.length_pos_iff.2 h1
  exact ⟨h2, by unfold e0; rw [List.getD_eq_getElem?_getD, List.getElem?_eq_getElem h2]; rfl⟩
set_option maxHeartbeats 1600000 in
theorem SnakeOrder_i (A : Option Addr) (n c : Nat) (xs : List C) (w : World) (hr : Rd w A (vC xs)) (hl : xs.length = n) (hn : n ≤ 1099511627776) :
    Calls Try.prog 41 #[.slice A n c] w (RetS2 w 60 2 (vC (snakeOrder xs)) (.bool (isSnake xs))) := by
  have HL := Lib.hid hl
  cases hc : isSnake xs with
  | false =>
    have HV := Lib.hid (snakeOrder_no hc)
    have HC := Lib.hid hc
    clear hc hl
    go_enter Try.func41, Try.ntmps41
    go_wp2_with (go_at_call 30; refine (IsSnake_i _ _ _ xs _ hr HL.out (by omega)).mono ?_; rw [HC.out]; rintro e w1 ⟨rfl, hb1⟩)
    go_ret2
    exact ⟨none, 0, 0, rfl, by rw [HV.out]; exact own_nil _ _ _ _, (by (repeat (first | with_reducible exact Below.refl _ _ | with_reducible assumption | with_reducible apply bel_alloc | with_reducible apply bel_drew | with_reducible apply bel_drewN | ((with_reducible refine bel_set ?_ ?_); rotate_left; (simp <;> omega)) | (with_reducible refine bel_trans ?_ (by with_reducible assumption)))))⟩
  | true =>
    have hs := conn_shape (tree_conn (snake_tree hc))
    have hlen := shape_len hs
    have hn8 : n ≤ 8 := by omega
    by_cases h1 : n = 1
    · have HV := Lib.hid (snakeOrder_one hc (by omega))
      have HC := Lib.hid hc
      have e1 : ((n : Int) == 1) = true := by simp; omega
      clear hc hl hs hlen h1
      go_enter Try.func41, Try.ntmps41
      go_wp2_with fail
      refine (IsSnake_i _ _ _ xs _ hr HL.out (by omega)).mono ?_
      rw [HC.out]
      rintro e w1 ⟨rfl, hb1⟩
      go_wp2_with fail
      refine (copyCells_i _ _ _ xs _ (hr.below hb1) HL.out (by omega)).mono ?_
      rintro e w2 ⟨B, m, cap, rfl, ho, hb2⟩
      have HO := Lib.hid ho
      clear ho
      go_wp2
      go_ret2
      exact ⟨_, _, _, rfl, by rw [HV.out]; exact own_base HO.out hb1.size, (by (repeat (first | with_reducible exact Below.refl _ _ | with_reducible assumption | with_reducible apply bel_alloc | with_reducible apply bel_drew | with_reducible apply bel_drewN | ((with_reducible refine bel_set ?_ ?_); rotate_left; (simp <;> omega)) | (with_reducible refine bel_trans ?_ (by with_reducible assumption)))))⟩
    · have HV := Lib.hid (snakeOrder_more hc (by omega))
      have hn2 : 2 ≤ n := by omega
      have hsm := shape_small hs
      have HWL : Hid (∀ k, k < n → (walkBy xs k).length = k + 1) := fun k hk => (walk_way hc (by omega) k (by omega)).1
      have HWS : Hid (∀ k, k < n → ∀ d ∈ walkBy xs k, small d) := fun k hk d hd => hsm d ((walk_way hc (by omega) k (by omega)).2.sub d hd)
      have HWN : Hid (∀ k, k + 1 < n → (∀ c ∈ xs, onWay (walkBy xs k) c = false) → False) := fun k hk h => walkBy_none hc (by omega) (by omega) h
      obtain ⟨hep, hef⟩ := ends_first hc (by omega)
      have HSM := Lib.hid hsm
      have HC := Lib.hid hc
      have HEF := Lib.hid hef
      have e1 : ((n : Int) == 1) = false := by simp; omega
      rw [hl] at HV
      clear hc hs hlen hsm hl hn hef h1
      go_enter Try.func41, Try.ntmps41
      go_wp2_with fail
      refine (IsSnake_i _ _ _ xs _ hr HL.out (by omega)).mono ?_
      rw [HC.out]
      rintro e w1 ⟨rfl, hb1⟩
      go_wp2_with fail
      refine (EndsOf_i _ _ _ xs _ (hr.below hb1) HL.out (by omega)).mono ?_
      rintro e w2 ⟨E, me, ce, rfl, hoe, hb2⟩
      obtain ⟨g0, off0, rfl, hg0, z1, z2⟩ := RdC.at_ (Rd.of_own hoe) hep
      rw [HEF.out] at z1 z2
      have hme : (ends xs).length = me := by have := own_len hoe; rw [vC_length] at this; omega
      have hme0 : 0 < me := by omega
      simp only [Nat.zero_mul, Nat.add_zero] at z1 z2
      obtain ⟨⟨zx, zy⟩, hz⟩ : ∃ p, e0 xs = p := ⟨_, rfl⟩
      rw [hz] at z1 z2
      have HZ := Lib.hid hz
      have hb02 := bel_trans hb1 hb2
      have hbs := hb02.size
      clear hz hme hoe
      go_wp2_with fail
      go_loopw [4] (fun e wr => ∃ (k m cap : Nat) (B : Option Addr), k < n ∧ m = k + 1 ∧ e = .slice B m cap ∧ wr.ownsRow w.heap.size 60 2 (.slice B m cap) m (vC (walkBy xs k)) ∧ Below w.heap.size w wr) (fun e _ => n - lenV e)
      case atStart => exact ⟨0, 1, 1, _, by omega, rfl, rfl, by simp only [walkBy]; rw [HZ.out]; exact own_newC _ _ _ _ hbs, (by (repeat (first | with_reducible exact Below.refl _ _ | with_reducible assumption | with_reducible apply bel_alloc | with_reducible apply bel_drew | with_reducible apply bel_drewN | ((with_reducible refine bel_set ?_ ?_); rotate_left; (simp <;> omega)) | (with_reducible refine bel_trans ?_ (by with_reducible assumption)))))⟩
      case round =>
        clear HZ hb1 hb2 hb02 z1 z2 hg0 hbs HEF hep hme0
        obtain ⟨k, m, cap, B, hk, hmk, rfl, hown, hb⟩ := hrel
        by_cases hlt : m < n
        · have HM := Lib.hid hmk
          have hlt2 : (m : Int) < (n : Int) := by omega
          have hm1 : (m : Int) - 1 = (k : Int) := by omega
          have hk0 : (0 : Int) ≤ (k : Int) := by omega
          have hkm : (k : Int) < (m : Int) := by omega
          have hkw : k < (walkBy xs k).length := by rw [HWL.out k hk]; omega
          obtain ⟨gB, offB, rfl, hgB, l1, l2⟩ := RdC.at_ (Rd.of_own hown) hkw
          have hla : (walkBy xs k)[k] = lastC (walkBy xs k) := by unfold lastC; rw [HWL.out k hk, List.getD_eq_getElem?_getD, show k + 1 - 1 = k from rfl, List.getElem?_eq_getElem hkw]; rfl
          rw [hla] at l1 l2
          obtain ⟨⟨lx, ly⟩, hlx⟩ : ∃ p, lastC (walkBy xs k) = p := ⟨_, rfl⟩
          rw [hlx] at l1 l2
          have hls : small (lx, ly) := by rw [← hlx, ← hla]; exact HWS.out k hk _ (List.getElem_mem _)
          have HLS := Lib.hid hls
          have HLX := Lib.hid hlx
          have HO := Lib.hid hown
          clear hown hmk hlx hla hls
          go_wp2_with fail
          generalize hL : wr.heap.size = L
          have HBL : Hid (Blk (wr.alloc (.cells #[.int .i64 lx, .int .i64 ly] 60)) L 60 #[.int .i64 lx, .int .i64 ly]) := by rw [← hL]; exact Blk.new _ _ _
          go_loopw [4, 34] (fun e i wr => ∃ j : Nat, j ≤ n ∧ e = .slice (some ⟨gB, offB, none⟩) m cap ∧ i = .int .i64 j ∧ (∀ c ∈ xs.take j, onWay (walkBy xs k) c = false) ∧ wr.ownsRow w.heap.size 60 2 (.slice (some ⟨gB, offB, none⟩) m cap) m (vC (walkBy xs k)) ∧ Blk wr L 60 #[.int .i64 lx, .int .i64 ly] ∧ Below w.heap.size w wr) (fun _ i _ => n - (intOf i).toNat)
          case atStart => exact ⟨0, Nat.zero_le _, rfl, rfl, by simp, HO.out.alloc _, HBL.out, (by (repeat (first | with_reducible exact Below.refl _ _ | with_reducible assumption | with_reducible apply bel_alloc | with_reducible apply bel_drew | with_reducible apply bel_drewN | ((with_reducible refine bel_set ?_ ?_); rotate_left; (simp <;> omega)) | (with_reducible refine bel_trans ?_ (by with_reducible assumption)))))⟩
          case round =>
            clear HO hb HBL l1 l2 hgB hL
            obtain ⟨j, hj, rfl, rfl, hno, hown, hBL, hb⟩ := hrel
            have bl1 : wr.cell? ⟨L, 0, none⟩ = some (.int .i64 lx) := by simpa using hBL.cell 0
            have bl2 : wr.cell? ⟨L, 1, none⟩ = some (.int .i64 ly) := by simpa using hBL.cell 1
            have hLlt := hBL.lt
            by_cases hlj : j < n
            · have hjx : j < xs.length := by rw [HL.out]; omega
              have hrw := hr.below hb
              obtain ⟨g, off, rfl, hgw, c1, c2⟩ := RdC.at_ hrw hjx
              have hte := nearI_eq HLS.out (HSM.out _ (List.getElem_mem hjx))
              have HNX : Hid (onWay (walkBy xs k) xs[j] = true → walkBy xs (k + 1) = walkBy xs k ++ [xs[j]]) := fun h => walkBy_next hjx hno h
              have HNO : Hid (onWay (walkBy xs k) xs[j] = false → ∀ c ∈ xs.take (j + 1), onWay (walkBy xs k) c = false) := fun h => takeP_all hjx hno h
              have HDF : Hid (onWay (walkBy xs k) xs[j] = (near (lx, ly) xs[j] && !hasC (walkBy xs k) xs[j].1 xs[j].2)) := by show onWay _ _ = _; unfold onWay; rw [HLX.out]
              obtain ⟨⟨x, y⟩, hx⟩ : ∃ p, xs[j] = p := ⟨_, rfl⟩
              rw [hx] at c1 c2 hte HNX HNO HDF
              have hgl := HWL.out k hk
              have hglm : (walkBy xs k).length = m := by have := HM.out; omega
              have HG := Lib.hid hglm
              have HT := Lib.hid hte
              have HO := Lib.hid hown
              have rs := Rd.of_own hown
              have hbs := hb.size
              have hm12 : m ≤ 1099511627776 := by omega
              clear hno hown hte hx hgl hglm
              have HB2 := Lib.hid (hBL.alloc (.cells #[.int .i64 x, .int .i64 y] 60))
              cases ht : near (lx, ly) (x, y) with
              | false =>
                have HN := Lib.hid (HNO.out (by simp [HDF.out, ht]))
                rw [ht] at HT
                clear ht HNX HNO HDF
                go_wp2_with fail
                refine (beside_i _ _ _ _ _).mono ?_
                rw [HT.out]
                rintro e w1 ⟨rfl, hb1⟩
                have HO2 := Lib.hid (own_keep (HO.out.alloc (.cells #[.int .i64 x, .int .i64 y] 60)) hb1)
                go_wp2_with fail
                exact ⟨⟨j + 1, by omega, rfl, by go_num, HN.out, HO2.out, HB2.out.below hb1, (by (repeat (first | with_reducible exact Below.refl _ _ | with_reducible assumption | with_reducible apply bel_alloc | with_reducible apply bel_drew | with_reducible apply bel_drewN | ((with_reducible refine bel_set ?_ ?_); rotate_left; (simp <;> omega)) | (with_reducible refine bel_trans ?_ (by with_reducible assumption)))))⟩, by simp [intOf]; omega⟩
              | true =>
                have HTT := Lib.hid ht
                cases hh : hasC (walkBy xs k) x y with
                | true =>
                  have HH := Lib.hid hh
                  have HN := Lib.hid (HNO.out (by simp [HDF.out, ht, hh]))
                  rw [ht] at HT
                  clear ht hh HNX HNO HDF
                  go_wp2_with fail
                  refine (beside_i _ _ _ _ _).mono ?_
                  rw [HT.out]
                  rintro e w1 ⟨rfl, hb1⟩
                  have z1 : w1.cell? ⟨wr.heap.size, 0, none⟩ = some (.int .i64 x) := by simpa using ((Blk.new wr 60 #[.int .i64 x, .int .i64 y]).below hb1).cell 0
                  have z2 : w1.cell? ⟨wr.heap.size, 1, none⟩ = some (.int .i64 y) := by simpa using ((Blk.new wr 60 #[.int .i64 x, .int .i64 y]).below hb1).cell 1
                  have HO2 := Lib.hid (own_keep (HO.out.alloc (.cells #[.int .i64 x, .int .i64 y] 60)) hb1)
                  have rs2 := Rd.of_own HO2.out
                  go_wp2_with fail
                  refine (HasCell_i _ m cap (walkBy xs k) x y _ rs2 HG.out hm12).mono ?_
                  rw [HH.out]
                  rintro e w2 ⟨rfl, hb2⟩
                  have HO3 := Lib.hid (own_keep HO2.out hb2)
                  go_wp2_with fail
                  exact ⟨⟨j + 1, by omega, rfl, by go_num, HN.out, HO3.out, (HB2.out.below hb1).below hb2, (by (repeat (first | with_reducible exact Below.refl _ _ | with_reducible assumption | with_reducible apply bel_alloc | with_reducible apply bel_drew | with_reducible apply bel_drewN | ((with_reducible refine bel_set ?_ ?_); rotate_left; (simp <;> omega)) | (with_reducible refine bel_trans ?_ (by with_reducible assumption)))))⟩, by simp [intOf]; omega⟩
                | false =>
                  have HH := Lib.hid hh
                  have HN := Lib.hid (HNX.out (by simp [HDF.out, ht, hh]))
                  rw [ht] at HT
                  clear ht hh HNX HNO HDF
                  go_wp2_with fail
                  refine (beside_i _ _ _ _ _).mono ?_
                  rw [HT.out]
                  rintro e w1 ⟨rfl, hb1⟩
                  have z1 : w1.cell? ⟨wr.heap.size, 0, none⟩ = some (.int .i64 x) := by simpa using ((Blk.new wr 60 #[.int .i64 x, .int .i64 y]).below hb1).cell 0
                  have z2 : w1.cell? ⟨wr.heap.size, 1, none⟩ = some (.int .i64 y) := by simpa using ((Blk.new wr 60 #[.int .i64 x, .int .i64 y]).below hb1).cell 1
                  have HO1 := Lib.hid (own_keep (HO.out.alloc (.cells #[.int .i64 x, .int .i64 y] 60)) hb1)
                  have rs2 := Rd.of_own HO1.out
                  go_wp2_with fail
                  refine (HasCell_i _ m cap (walkBy xs k) x y _ rs2 HG.out hm12).mono ?_
                  rw [HH.out]
                  rintro e w2 ⟨rfl, hb2⟩
                  have y1 := keep_below hb2 z1
                  have y2 := keep_below hb2 z2
                  have HO2 := Lib.hid (own_keep HO1.out hb2)
                  have hbw : Below w.heap.size w w2 := (by (repeat (first | with_reducible exact Below.refl _ _ | with_reducible assumption | with_reducible apply bel_alloc | with_reducible apply bel_drew | with_reducible apply bel_drewN | ((with_reducible refine bel_set ?_ ?_); rotate_left; (simp <;> omega)) | (with_reducible refine bel_trans ?_ (by with_reducible assumption)))))
                  have hbwz := hbw.size
                  go_wp2_with (at_builtin; go_must (refine app_C _ rfl _ _ rfl w.heap.size _ _ _ _ rfl (HO2.out.alloc _) _ _ _ [(x, y)] rfl (rd_newC _ _ _ _) rfl (by omega) (by simp; omega) ?_); intro A' c' w' hown' hg' hat'; have HO3 := Lib.hid hown'; have HBG := Lib.hid (bel_app (bel_alloc hbw _) hg' (fun g' hg1 => ((own_lt HO2.out) g' hg1).1)); clear hown' hg' hat')
                  exact ⟨⟨k + 1, m + 1, c', A', by have := HM.out; omega, by rw [HM.out], rfl, by rw [HN.out]; exact HO3.out, HBG.out⟩, by simp [lenV]; omega⟩
            · exfalso
              have hjn : j = n := by omega
              rw [List.take_of_length_le (by rw [HL.out]; omega)] at hno
              exact HWN.out k (by have := HM.out; omega) hno
        · have hkn : k = n - 1 := by omega
          have hlt2 : ¬ (m : Int) < (n : Int) := by omega
          rw [hkn, ← HV.out] at hown
          have HO := Lib.hid hown
          clear hown hkn hmk
          go_wp2
          go_ret2
          exact ⟨_, _, _, rfl, HO.out, (by (repeat (first | with_reducible exact Below.refl _ _ | with_reducible assumption | with_reducible apply bel_alloc | with_reducible apply bel_drew | with_reducible apply bel_drewN | ((with_reducible refine bel_set ?_ ?_); rotate_left; (simp <;> omega)) | (with_reducible refine bel_trans ?_ (by with_reducible assumption)))))⟩
set_option maxHeartbeats 1600000 in
theorem SnakeOrder_s (A : Option Addr) (n c : Nat) (xs : List C) (w : World) (hr : Rd w A (vC xs)) (hl : xs.length = n) (hn : n ≤ 1099511627776) :
    Calls Try.prog 40 #[.slice A n c] w (RetS2 w 60 2 (vC (snakeOrder xs)) (.bool (isSnake xs))) := by
  have HL := Lib.hid hl
  cases hc : isSnake xs with
  | false =>
    have HV := Lib.hid (snakeOrder_no hc)
    have HC := Lib.hid hc
    clear hc hl
    go_enter Try.func40, Try.ntmps40
    go_wp2_with (go_at_call 29; refine (IsSnake_s _ _ _ xs _ hr HL.out (by omega)).mono ?_; rw [HC.out]; rintro e w1 ⟨rfl, hb1⟩)
    go_ret2
    exact ⟨_, 0, 0, rfl, by rw [HV.out]; exact own_new _ _ 2 0 #[] rfl (by simp [maxLen]) (by have := hb1.size; omega), (by (repeat (first | with_reducible exact Below.refl _ _ | with_reducible assumption | with_reducible apply bel_alloc | with_reducible apply bel_drew | with_reducible apply bel_drewN | ((with_reducible refine bel_set ?_ ?_); rotate_left; (simp <;> omega)) | (with_reducible refine bel_trans ?_ (by with_reducible assumption)))))⟩
  | true =>
    have hs := conn_shape (tree_conn (snake_tree hc))
    have hlen := shape_len hs
    have hn8 : n ≤ 8 := by omega
    by_cases h1 : n = 1
    · have HV := Lib.hid (snakeOrder_one hc (by omega))
      have HC := Lib.hid hc
      have e1 : ((n : Int) == 1) = true := by simp; omega
      clear hc hl hs hlen h1
      go_enter Try.func40, Try.ntmps40
      go_wp2_with fail
      refine (IsSnake_s _ _ _ xs _ hr HL.out (by omega)).mono ?_
      rw [HC.out]
      rintro e w1 ⟨rfl, hb1⟩
      have hbs := hb1.size
      have ho := own_new w1 60 2 0 #[] rfl (by simp [maxLen]) (base := w.heap.size) hbs
      have HO1 := Lib.hid ho
      clear ho
      go_wp2_with (at_builtin; go_must (refine app_C _ rfl _ _ rfl w.heap.size _ 0 0 [] rfl HO1.out _ _ _ xs rfl ((hr.below hb1).alloc _) HL.out (by omega) (by simp; omega) ?_); intro A' c' w' hown' hg' hat'; simp only [Nat.zero_add, List.nil_append] at hown'; have HO := Lib.hid hown'; have HB := Lib.hid (bel_app (bel_alloc hb1 _) hg' (fun g h => by simp only [ob, Option.map_some, Option.some.injEq] at h; omega)); clear hown' hg' hat')
      go_ret2
      exact ⟨_, _, _, rfl, by rw [HV.out]; exact HO.out, HB.out⟩
    · have HV := Lib.hid (snakeOrder_more hc (by omega))
      have hn2 : 2 ≤ n := by omega
      have hsm := shape_small hs
      have HWL : Hid (∀ k, k < n → (walkBy xs k).length = k + 1) := fun k hk => (walk_way hc (by omega) k (by omega)).1
      have HWS : Hid (∀ k, k < n → ∀ d ∈ walkBy xs k, small d) := fun k hk d hd => hsm d ((walk_way hc (by omega) k (by omega)).2.sub d hd)
      have HWN : Hid (∀ k, k + 1 < n → (∀ c ∈ xs, onWay (walkBy xs k) c = false) → False) := fun k hk h => walkBy_none hc (by omega) (by omega) h
      obtain ⟨hep, hef⟩ := ends_first hc (by omega)
      have HSM := Lib.hid hsm
      have HC := Lib.hid hc
      have HEF := Lib.hid hef
      have e1 : ((n : Int) == 1) = false := by simp; omega
      rw [hl] at HV
      clear hc hs hlen hsm hl hn hef h1
      go_enter Try.func40, Try.ntmps40
      go_wp2_with fail
      refine (IsSnake_s _ _ _ xs _ hr HL.out (by omega)).mono ?_
      rw [HC.out]
      rintro e w1 ⟨rfl, hb1⟩
      go_wp2_with fail
      refine (EndsOf_s _ _ _ xs _ (hr.below hb1) HL.out (by omega)).mono ?_
      rintro e w2 ⟨E, me, ce, rfl, hoe, hb2⟩
      obtain ⟨g0, off0, rfl, hg0, z1, z2⟩ := RdC.at_ (Rd.of_own hoe) hep
      rw [HEF.out] at z1 z2
      have hme : (ends xs).length = me := by have := own_len hoe; rw [vC_length] at this; omega
      have hme0 : 0 < me := by omega
      simp only [Nat.zero_mul, Nat.add_zero] at z1 z2
      obtain ⟨⟨zx, zy⟩, hz⟩ : ∃ p, e0 xs = p := ⟨_, rfl⟩
      rw [hz] at z1 z2
      have HZ := Lib.hid hz
      have hb02 := bel_trans hb1 hb2
      have hbs := hb02.size
      clear hz hme hoe
      go_wp2_with fail
      go_loopw [4] (fun e wr => ∃ (k m cap : Nat) (B : Option Addr), k < n ∧ m = k + 1 ∧ e = .slice B m cap ∧ wr.ownsRow w.heap.size 60 2 (.slice B m cap) m (vC (walkBy xs k)) ∧ Below w.heap.size w wr) (fun e _ => n - lenV e)
      case atStart => exact ⟨0, 1, 1, _, by omega, rfl, rfl, by simp only [walkBy]; rw [HZ.out]; exact own_newC _ _ _ _ hbs, (by (repeat (first | with_reducible exact Below.refl _ _ | with_reducible assumption | with_reducible apply bel_alloc | with_reducible apply bel_drew | with_reducible apply bel_drewN | ((with_reducible refine bel_set ?_ ?_); rotate_left; (simp <;> omega)) | (with_reducible refine bel_trans ?_ (by with_reducible assumption)))))⟩
      case round =>
        clear HZ hb1 hb2 hb02 z1 z2 hg0 hbs HEF hep hme0
        obtain ⟨k, m, cap, B, hk, hmk, rfl, hown, hb⟩ := hrel
        by_cases hlt : m < n
        · have HM := Lib.hid hmk
          have hlt2 : (m : Int) < (n : Int) := by omega
          have hm1 : (m : Int) - 1 = (k : Int) := by omega
          have hk0 : (0 : Int) ≤ (k : Int) := by omega
          have hkm : (k : Int) < (m : Int) := by omega
          have hkw : k < (walkBy xs k).length := by rw [HWL.out k hk]; omega
          obtain ⟨gB, offB, rfl, hgB, l1, l2⟩ := RdC.at_ (Rd.of_own hown) hkw
          have hla : (walkBy xs k)[k] = lastC (walkBy xs k) := by unfold lastC; rw [HWL.out k hk, List.getD_eq_getElem?_getD, show k + 1 - 1 = k from rfl, List.getElem?_eq_getElem hkw]; rfl
          rw [hla] at l1 l2
          obtain ⟨⟨lx, ly⟩, hlx⟩ : ∃ p, lastC (walkBy xs k) = p := ⟨_, rfl⟩
          rw [hlx] at l1 l2
          have hls : small (lx, ly) := by rw [← hlx, ← hla]; exact HWS.out k hk _ (List.getElem_mem _)
          have HLS := Lib.hid hls
          have HLX := Lib.hid hlx
          have HO := Lib.hid hown
          clear hown hmk hlx hla hls
          go_wp2_with fail
          generalize hL : wr.heap.size = L
          have HBL : Hid (Blk (wr.alloc (.cells #[.int .i64 lx, .int .i64 ly] 60)) L 60 #[.int .i64 lx, .int .i64 ly]) := by rw [← hL]; exact Blk.new _ _ _
          go_loopw [4, 6] (fun e i wr => ∃ j : Nat, j ≤ n ∧ e = .slice (some ⟨gB, offB, none⟩) m cap ∧ i = .int .i64 j ∧ (∀ c ∈ xs.take j, onWay (walkBy xs k) c = false) ∧ wr.ownsRow w.heap.size 60 2 (.slice (some ⟨gB, offB, none⟩) m cap) m (vC (walkBy xs k)) ∧ Blk wr L 60 #[.int .i64 lx, .int .i64 ly] ∧ Below w.heap.size w wr) (fun _ i _ => n - (intOf i).toNat)
          case atStart => exact ⟨0, Nat.zero_le _, rfl, rfl, by simp, HO.out.alloc _, HBL.out, (by (repeat (first | with_reducible exact Below.refl _ _ | with_reducible assumption | with_reducible apply bel_alloc | with_reducible apply bel_drew | with_reducible apply bel_drewN | ((with_reducible refine bel_set ?_ ?_); rotate_left; (simp <;> omega)) | (with_reducible refine bel_trans ?_ (by with_reducible assumption)))))⟩
          case round =>
            clear HO hb HBL l1 l2 hgB hL
            obtain ⟨j, hj, rfl, rfl, hno, hown, hBL, hb⟩ := hrel
            have bl1 : wr.cell? ⟨L, 0, none⟩ = some (.int .i64 lx) := by simpa using hBL.cell 0
            have bl2 : wr.cell? ⟨L, 1, none⟩ = some (.int .i64 ly) := by simpa using hBL.cell 1
            have hLlt := hBL.lt
            by_cases hlj : j < n
            · have hjx : j < xs.length := by rw [HL.out]; omega
              have hrw := hr.below hb
              obtain ⟨g, off, rfl, hgw, c1, c2⟩ := RdC.at_ hrw hjx
              have hte := nearS_eq (HSM.out _ (List.getElem_mem hjx)) HLS.out
              have HNX : Hid (onWay (walkBy xs k) xs[j] = true → walkBy xs (k + 1) = walkBy xs k ++ [xs[j]]) := fun h => walkBy_next hjx hno h
              have HNO : Hid (onWay (walkBy xs k) xs[j] = false → ∀ c ∈ xs.take (j + 1), onWay (walkBy xs k) c = false) := fun h => takeP_all hjx hno h
              have HDF : Hid (onWay (walkBy xs k) xs[j] = (near (lx, ly) xs[j] && !hasC (walkBy xs k) xs[j].1 xs[j].2)) := by show onWay _ _ = _; unfold onWay; rw [HLX.out]
              obtain ⟨⟨x, y⟩, hx⟩ : ∃ p, xs[j] = p := ⟨_, rfl⟩
              rw [hx, near_symm] at hte
              rw [hx] at c1 c2 HNX HNO HDF
              have hgl := HWL.out k hk
              have hglm : (walkBy xs k).length = m := by have := HM.out; omega
              have HG := Lib.hid hglm
              have HT := Lib.hid hte
              have HO := Lib.hid hown
              have rs := Rd.of_own hown
              have hbs := hb.size
              have hm12 : m ≤ 1099511627776 := by omega
              clear hno hown hte hx hgl hglm
              have hi0 : (0 : Int) ≤ (j : Int) := by omega
              have hi1 : (j : Int) < (n : Int) := by omega
              cases ht : near (lx, ly) (x, y) with
              | false =>
                have HN := Lib.hid (HNO.out (by simp [HDF.out, ht]))
                rw [ht] at HT
                clear ht HNX HNO HDF
                go_wp2_with fail
                (refine wp_region_below (by kernel_rfl) (by kernel_rfl) ?_; (repeat (first | go_big_quiet_skip | (refine quietV (v := ?_) (by rfl) rfl (fun w' hbw => ?_) ?_; rotate_left; ((try dsimp only at hbw); have hbc := (bcell hbw).1; have hbf := (bcell hbw).2; go_simp; first | done | with_reducible rfl | (go_at_call 77; exact callsBB (l2Near_s _ _ _ _ _) HT.out hbw)); simp only [List.setIfInBounds_toArray, List.set_cons_zero, List.set_cons_succ]))); refine wpQuiet_nil ?_; intro w1 hb1)
                have HO2 := Lib.hid (own_keep HO.out hb1)
                go_wp2_with fail
                exact ⟨⟨j + 1, by omega, rfl, by go_num, HN.out, HO2.out, hBL.below hb1, (by (repeat (first | with_reducible exact Below.refl _ _ | with_reducible assumption | with_reducible apply bel_alloc | with_reducible apply bel_drew | with_reducible apply bel_drewN | ((with_reducible refine bel_set ?_ ?_); rotate_left; (simp <;> omega)) | (with_reducible refine bel_trans ?_ (by with_reducible assumption)))))⟩, by simp [intOf]; omega⟩
              | true =>
                cases hh : hasC (walkBy xs k) x y with
                | true =>
                  have HH := Lib.hid hh
                  have HN := Lib.hid (HNO.out (by simp [HDF.out, ht, hh]))
                  rw [ht] at HT
                  clear ht hh HNX HNO HDF
                  go_wp2_with fail
                  (refine wp_region_below (by kernel_rfl) (by kernel_rfl) ?_; (repeat (first | go_big_quiet_skip | (refine quietV (v := ?_) (by rfl) rfl (fun w' hbw => ?_) ?_; rotate_left; ((try dsimp only at hbw); have hbc := (bcell hbw).1; have hbf := (bcell hbw).2; go_simp; first | done | with_reducible rfl | (first | (go_at_call 77; exact callsBB (l2Near_s _ _ _ _ _) HT.out hbw) | (go_at_call 69; exact callsBB (HasCell_s _ _ _ _ _ _ _ (rs.below hbw) HG.out hm12) HH.out hbw))); simp only [List.setIfInBounds_toArray, List.set_cons_zero, List.set_cons_succ]))); refine wpQuiet_nil ?_; intro w1 hb1)
                  have HO2 := Lib.hid (own_keep HO.out hb1)
                  go_wp2_with fail
                  exact ⟨⟨j + 1, by omega, rfl, by go_num, HN.out, HO2.out, hBL.below hb1, (by (repeat (first | with_reducible exact Below.refl _ _ | with_reducible assumption | with_reducible apply bel_alloc | with_reducible apply bel_drew | with_reducible apply bel_drewN | ((with_reducible refine bel_set ?_ ?_); rotate_left; (simp <;> omega)) | (with_reducible refine bel_trans ?_ (by with_reducible assumption)))))⟩, by simp [intOf]; omega⟩
                | false =>
                  have HH := Lib.hid hh
                  have HN := Lib.hid (HNX.out (by simp [HDF.out, ht, hh]))
                  rw [ht] at HT
                  clear ht hh HNX HNO HDF
                  go_wp2_with fail
                  (refine wp_region_below (by kernel_rfl) (by kernel_rfl) ?_; (repeat (first | go_big_quiet_skip | (refine quietV (v := ?_) (by rfl) rfl (fun w' hbw => ?_) ?_; rotate_left; ((try dsimp only at hbw); have hbc := (bcell hbw).1; have hbf := (bcell hbw).2; go_simp; first | done | with_reducible rfl | (first | (go_at_call 77; exact callsBB (l2Near_s _ _ _ _ _) HT.out hbw) | (go_at_call 69; exact callsBB (HasCell_s _ _ _ _ _ _ _ (rs.below hbw) HG.out hm12) HH.out hbw))); simp only [List.setIfInBounds_toArray, List.set_cons_zero, List.set_cons_succ]))); refine wpQuiet_nil ?_; intro w2 hb2)
                  have y1 := keep_below hb2 c1
                  have y2 := keep_below hb2 c2
                  have HO2 := Lib.hid (own_keep HO.out hb2)
                  have hbw : Below w.heap.size w w2 := (by (repeat (first | with_reducible exact Below.refl _ _ | with_reducible assumption | with_reducible apply bel_alloc | with_reducible apply bel_drew | with_reducible apply bel_drewN | ((with_reducible refine bel_set ?_ ?_); rotate_left; (simp <;> omega)) | (with_reducible refine bel_trans ?_ (by with_reducible assumption)))))
                  have hbwz := hbw.size
                  go_wp2_with (at_builtin; go_must (refine app_C _ rfl _ _ rfl w.heap.size _ _ _ _ rfl (HO2.out.alloc _) _ _ _ [(x, y)] rfl (rd_newC _ _ _ _) rfl (by omega) (by simp; omega) ?_); intro A' c' w' hown' hg' hat'; have HO3 := Lib.hid hown'; have HBG := Lib.hid (bel_app (bel_alloc hbw _) hg' (fun g' hg1 => ((own_lt HO2.out) g' hg1).1)); clear hown' hg' hat')
                  exact ⟨⟨k + 1, m + 1, c', A', by have := HM.out; omega, by rw [HM.out], rfl, by rw [HN.out]; exact HO3.out, HBG.out⟩, by simp [lenV]; omega⟩
            · exfalso
              have hjn : j = n := by omega
              rw [List.take_of_length_le (by rw [HL.out]; omega)] at hno
              exact HWN.out k (by have := HM.out; omega) hno
        · have hkn : k = n - 1 := by omega
          have hlt2 : ¬ (m : Int) < (n : Int) := by omega
          rw [hkn, ← HV.out] at hown
          have HO := Lib.hid hown
          clear hown hkn hmk
          go_wp2
          go_ret2
          exact ⟨_, _, _, rfl, HO.out, (by (repeat (first | with_reducible exact Below.refl _ _ | with_reducible assumption | with_reducible apply bel_alloc | with_reducible apply bel_drew | with_reducible apply bel_drewN | ((with_reducible refine bel_set ?_ ?_); rotate_left; (simp <;> omega)) | (with_reducible refine bel_trans ?_ (by with_reducible assumption)))))⟩
end Go.Proofs.Ytemmbpmgfjodnaa
