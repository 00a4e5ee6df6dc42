/- Opposite faces of a net of the cube. -/
import Derived.Test.YtemmbpmgfjodnaaCov
import Derived.Test.YtemmbpmgfjodnaaRowsO
import Derived.Test.YtemmbpmgfjodnaaQreg
import Derived.Outline
import Derived.WalkLawsBesides
import Derived.WalkSpells
import Derived.BigQuiet
import Derived.Deep.QuietTactic
import Derived.Deep.RegionHeld3
import Derived.Deep.RegionWith
import Derived.Deep.DeepCutAuto
import Derived.Deep.CutBlock
import Derived.Deep.DrawnRows
namespace Go.Proofs.Ytemmbpmgfjodnaa
open Go.RowKit
set_option linter.unusedVariables false
attribute [local go_sem ↓] Go.wp_at_zero Go.wp_at_succ

def half (x : Int) : Int := IntKind.i64.wrap (x.tdiv 2)
def oppRow (l : List Int) (i : Nat) : Nat → List (List Int)
  | 0 => []
  | j + 1 => oppRow l i j ++ (if i < j ∧ half (l.getD i 0) = half (l.getD j 0) then [[(i : Int), (j : Int)]] else [])
def oppAll (l : List Int) : Nat → List (List Int)
  | 0 => []
  | i + 1 => oppAll l i ++ oppRow l i l.length
noncomputable def oppV (xs : List C) : List (List Int) := if netV xs then oppAll (faces xs) (faces xs).length else []
theorem oppRow_start (l : List Int) (i : Nat) : ∀ j, j ≤ i + 1 → oppRow l i j = []
  | 0, _ => rfl
  | j + 1, h => by
    show oppRow l i j ++ _ = []
    rw [oppRow_start l i j (by omega), if_neg (by omega)]
    rfl
theorem oppRow_yes {l : List Int} {i j : Nat} {x y : Int} (hi : l.getD i 0 = x) (hj : l.getD j 0 = y) (h : i < j) (he : (half x == half y) = true) : oppRow l i (j + 1) = oppRow l i j ++ [[(i : Int), (j : Int)]] := by
  show oppRow l i j ++ _ = _
  rw [if_pos ⟨h, by rw [hi, hj]; simpa using he⟩]
theorem oppRow_no {l : List Int} {i j : Nat} {x y : Int} (hi : l.getD i 0 = x) (hj : l.getD j 0 = y) (he : (half x == half y) = false) : oppRow l i (j + 1) = oppRow l i j := by
  show oppRow l i j ++ _ = _
  rw [if_neg (fun h => by rw [hi, hj] at h; simp [h.2] at he), List.append_nil]
theorem oppRow_tot (l : List Int) (i : Nat) : ∀ j, total (oppRow l i j) ≤ 2 * j
  | 0 => by simp [oppRow, total]
  | j + 1 => by
    have h1 := oppRow_tot l i j
    have h2 : total (oppRow l i (j + 1)) ≤ total (oppRow l i j) + 2 := by
      show total (oppRow l i j ++ _) ≤ _
      rw [total_append]
      split <;> simp [total]
    omega
theorem oppAll_tot (l : List Int) : ∀ i, total (oppAll l i) ≤ 2 * l.length * i
  | 0 => by simp [oppAll, total]
  | i + 1 => by
    have h1 := oppAll_tot l i
    have h2 := oppRow_tot l i l.length
    show total (oppAll l i ++ _) ≤ _
    rw [total_append, Nat.mul_succ]
    omega
theorem net_conn {xs : List C} (h : isConn xs = false) : netV xs = false := by
  unfold netV covV
  rw [h]
  simp
theorem oppV_tot (xs : List C) : total (oppV xs) ≤ 1048576 := by
  unfold oppV
  split
  · next h =>
    have hc : isConn xs = true := by
      cases hc : isConn xs with
      | true => rfl
      | false => rw [net_conn hc] at h; cases h
    have h8 := faces_le8 hc
    have h1 := oppAll_tot (faces xs) (faces xs).length
    have h2 : 2 * (faces xs).length * (faces xs).length ≤ 2 * 8 * 8 := Nat.mul_le_mul (Nat.mul_le_mul_left 2 h8) h8
    omega
  · simp [total]
theorem oppRow_len (l : List Int) (i : Nat) : ∀ j, (oppRow l i j).length ≤ j
  | 0 => by simp [oppRow]
  | j + 1 => by
    have h1 := oppRow_len l i j
    have h2 : (oppRow l i (j + 1)).length ≤ (oppRow l i j).length + 1 := by
      show (oppRow l i j ++ _).length ≤ _
      rw [List.length_append]
      split <;> simp
    omega
theorem oppAll_len (l : List Int) : ∀ i, (oppAll l i).length ≤ l.length * i
  | 0 => by simp [oppAll]
  | i + 1 => by
    have h1 := oppAll_len l i
    have h2 := oppRow_len l i l.length
    show (oppAll l i ++ _).length ≤ _
    rw [List.length_append, Nat.mul_succ]
    omega
theorem oppV_len (xs : List C) : (oppV xs).length ≤ 1048576 := by
  unfold oppV
  split
  · next h =>
    have hc : isConn xs = true := by
      cases hc : isConn xs with
      | true => rfl
      | false => rw [net_conn hc] at h; cases h
    have h8 := faces_le8 hc
    have h1 := oppAll_len (faces xs) (faces xs).length
    have h2 : (faces xs).length * (faces xs).length ≤ 8 * 8 := Nat.mul_le_mul h8 h8
    omega
  · simp
theorem getD_at {l : List Int} {k : Nat} {x : Int} (h : k < l.length) (e : l[k] = x) : l.getD k 0 = x := by rw [List.getD_eq_getElem?_getD, List.getElem?_eq_getElem h, Option.getD_some, e]
set_option maxHeartbeats 1600000 in
theorem OppositeFaces_i (A : Option Addr) (n c : Nat) (xs : List C) (w : World) (hr : Rd w A (vC xs)) (hl : xs.length = n) (hn : n ≤ 1099511627776) :
    Calls Try.prog 49 #[.slice A n c] w (RetO2 w (oppV xs)) := by
  have HL := Lib.hid hl
  cases hc : netV xs with
  | false =>
    have HV : Hid (oppV xs = []) := by show oppV xs = []; unfold oppV; rw [hc]; rfl
    have HC := Lib.hid hc
    clear hc hl
    go_enter Try.func49, Try.ntmps49
    go_wp2_with fail
    refine (IsCubeNet_i _ _ _ xs _ hr HL.out (by omega)).mono ?_
    rw [HC.out]
    rintro e w1 ⟨rfl, hb1⟩
    go_wp2_with fail
    go_ret
    exact ⟨none, 0, 0, [], rfl, by rw [HV.out]; exact Own2.nil _ _, hb1⟩
  | true =>
    have hc2 : isConn xs = true := by
      cases h : isConn xs with
      | true => rfl
      | false => rw [net_conn h] at hc; cases hc
    have hV : oppV xs = oppAll (faces xs) (faces xs).length := by unfold oppV; rw [hc]; rfl
    have hfl := faces_le8 hc2
    have HC := Lib.hid hc
    have HC2 := Lib.hid hc2
    have HV0 := Lib.hid hV
    clear hc hc2 hl hV
    go_enter Try.func49, Try.ntmps49
    go_wp2_with fail
    refine (IsCubeNet_i _ _ _ xs _ hr HL.out (by omega)).mono ?_
    rw [HC.out]
    rintro e w1 ⟨rfl, hb1⟩
    go_wp2_with fail
    refine (FacesOf_i _ _ _ xs _ (hr.below hb1) HL.out (by omega)).mono ?_
    rw [HC2.out]
    rintro e w2 ⟨D, m, cap, rfl, ho, hb2⟩
    have hV := HV0.out
    clear HV0
    generalize faces xs = l at hV ho hfl
    have hlm : l.length = m := by have := own_len ho; rw [vI_length] at this; omega
    rw [hlm] at hV hfl
    have HV := Lib.hid hV
    have HLM := Lib.hid hlm
    have HRD := Lib.hid (Rd.of_own ho)
    have hbw2 : Below w.heap.size w w2 := bel_trans hb1 hb2
    have hsz2 := hbw2.size
    clear hlm ho hV
    go_wp2_with fail
    go_loopw [18, 5] (fun e8 e5 wr => ∃ (i q cq : Nat) (B : Option Addr) (hs : List H), i ≤ m ∧ q ≤ 8 * i ∧ e8 = .int .i64 i ∧ e5 = .slice B q cq ∧ Own2 w2.heap.size wr B q cq hs (oppAll l i) ∧ Below w2.heap.size w2 wr) (fun e8 e5 _ => m - (intOf e8).toNat)
    case atStart => exact ⟨0, 0, 0, none, [], by omega, by omega, rfl, rfl, Own2.nil _ _, Below.refl _ _⟩
    case round =>
      skip
      obtain ⟨i, q, cq, B, hs, hi, hq8, rfl, rfl, hO, hb⟩ := hrel
      by_cases hlt : i < m
      · have hil : i < l.length := by rw [HLM.out]; exact hlt
        have hi0 : (0 : Int) ≤ (i : Int) := by omega
        have hi1 : (i : Int) < (m : Int) := by omega
        have HO := Lib.hid hO
        clear hO
        obtain ⟨x, hx⟩ : ∃ x, l[i] = x := ⟨_, rfl⟩
        have hgx := getD_at hil hx
        have HGX := Lib.hid hgx
        have HX := Lib.hid hx
        clear hgx hx
        go_wp2_with fail
        go_loopw [7, 5] (fun e7 e5 wr => ∃ (j r cr : Nat) (B : Option Addr) (hs : List H), i < j ∧ j ≤ m ∧ r ≤ 8 * i + j ∧ e7 = .int .i64 j ∧ e5 = .slice B r cr ∧ Own2 w2.heap.size wr B r cr hs (oppAll l i ++ oppRow l i j) ∧ Below w2.heap.size w2 wr) (fun e7 e5 _ => m - (intOf e7).toNat)
        case atStart => exact ⟨i + 1, q, cq, B, hs, by omega, by omega, by omega, by go_num, rfl, by rw [oppRow_start l i (i + 1) (Nat.le_refl _), List.append_nil]; exact HO.out, (by (repeat (first | with_reducible exact Below.refl _ _ | with_reducible assumption | with_reducible apply bel_alloc | with_reducible apply bel_drew | with_reducible apply bel_drewN | ((with_reducible refine bel_set ?_ ?_); rotate_left; (simp <;> omega)) | (with_reducible refine bel_trans ?_ (by with_reducible assumption)))))⟩
        case round =>
          clear HO hb
          obtain ⟨j, r, cr, B, hs, hij, hj, hr8, rfl, rfl, hO, hb⟩ := hrel
          by_cases hjm : j < m
          · have hjl : j < l.length := by rw [HLM.out]; exact hjm
            have hj0 : (0 : Int) ≤ (j : Int) := by omega
            have hj1 : (j : Int) < (m : Int) := by omega
            obtain ⟨g, off, hD, hg, c1⟩ := RdI.at_ (HRD.out.below hb) hil
            subst hD
            obtain ⟨g', off', he, _, c2⟩ := RdI.at_ (HRD.out.below hb) hjl
            simp only [Option.some.injEq, Addr.mk.injEq, and_true] at he
            obtain ⟨rfl, rfl⟩ := he
            rw [HX.out] at c1
            obtain ⟨y, hy⟩ : ∃ y, l[j] = y := ⟨_, rfl⟩
            have hgy := getD_at hjl hy
            rw [hy] at c2
            clear hy
            have HO := Lib.hid hO
            clear hO
            have hbz := hb.size
            by_cases hxy : (half x == half y) = true
            · have HN := Lib.hid (oppRow_yes HGX.out hgy hij hxy)
              unfold half at hxy
              clear hgy
              skip
              go_wp2_with fail
              (refine wp_region_below (by kernel_rfl) (by kernel_rfl) ?_; (repeat (first | go_big_quiet_skip | (refine quietV (v := ?_) (by rfl) rfl (fun w' hbw => ?_) ?_; rotate_left; ((try dsimp only at hbw); have hbc := (bcell hbw).1; have hbf := (bcell hbw).2; go_simp; first | done | with_reducible rfl | fail); simp only [List.setIfInBounds_toArray, List.set_cons_zero, List.set_cons_succ]))); refine wpQuiet_nil ?_; intro wq hbq)
              have HO2 := Lib.hid (HO.out.below hbq)
              have hwq : w2.heap.size ≤ wq.heap.size := by have := hbq.size; omega
              have hrn : Rd ((wq.alloc (.cells #[.int .i64 i, .int .i64 j] 3)).alloc (.cells #[.slice (some ⟨wq.heap.size, 0, none⟩) 2 2] 44)) (some ⟨wq.heap.size + 1, 0, none⟩) (vS [(some ⟨wq.heap.size, 0, none⟩, 2, 2)]) := by
                have := rd_newS (wq.alloc (.cells #[.int .i64 i, .int .i64 j] 3)) 44 (some ⟨wq.heap.size, 0, none⟩, 2, 2)
                rw [show (wq.alloc (.cells #[.int .i64 i, .int .i64 j] 3)).heap.size = wq.heap.size + 1 from by simp] at this
                exact this
              have HRN := Lib.hid hrn
              clear HO hrn
              go_wp2_with (at_builtin; go_must (refine app_S _ rfl _ _ rfl w2.heap.size _ _ _ hs rfl ((HO2.out.own.alloc _).alloc _) _ _ _ [(some ⟨wq.heap.size, 0, none⟩, 2, 2)] rfl HRN.out rfl (by omega) (by simp; omega) ?_); intro B2 c3 w6 hoB hgB2 hatB; have HOB6 := Lib.hid hoB; have HGB6 := Lib.hid hgB2; have HATB6 := Lib.hid hatB; clear hoB hgB2 hatB)
              have hP := Own2.push HO2.out (f := [(i : Int), (j : Int)]) ((own_new wq 3 1 2 #[.int .i64 i, .int .i64 j] rfl (by simp [maxLen]) hwq).alloc _) (Nat.le_refl _) (bel_alloc (bel_alloc (Below.refl _ _) _) _) HOB6.out HGB6.out HATB6.out
              have HP := Lib.hid hP
              have hb6 : Below w2.heap.size w2 w6 := by
                refine bel_app (bel_alloc (bel_alloc (bel_trans hb hbq) _) _) HGB6.out (fun g h => ?_)
                exact (own_lt HO2.out.own g h).1
              clear hP
              exact ⟨⟨j + 1, r + 1, c3, B2, _, by omega, by omega, by omega, by go_num, rfl, by rw [HN.out, ← List.append_assoc]; exact HP.out, hb6⟩, by simp [intOf]; omega⟩
            · have hxy2 : (half x == half y) = false := by simpa using hxy
              have HN := Lib.hid (oppRow_no HGX.out hgy hxy2)
              unfold half at hxy2
              clear hxy hgy
              go_wp2_with fail
              (refine wp_region_below (by kernel_rfl) (by kernel_rfl) ?_; (repeat (first | go_big_quiet_skip | (refine quietV (v := ?_) (by rfl) rfl (fun w' hbw => ?_) ?_; rotate_left; ((try dsimp only at hbw); have hbc := (bcell hbw).1; have hbf := (bcell hbw).2; go_simp; first | done | with_reducible rfl | fail); simp only [List.setIfInBounds_toArray, List.set_cons_zero, List.set_cons_succ]))); refine wpQuiet_nil ?_; intro wq hbq)
              have HO2 := Lib.hid (HO.out.below hbq)
              clear HO
              go_wp2_with fail
              exact ⟨⟨j + 1, r, cr, B, hs, by omega, by omega, by omega, by go_num, rfl, by rw [HN.out]; exact HO2.out, (by (repeat (first | with_reducible exact Below.refl _ _ | with_reducible assumption | with_reducible apply bel_alloc | with_reducible apply bel_drew | with_reducible apply bel_drewN | ((with_reducible refine bel_set ?_ ?_); rotate_left; (simp <;> omega)) | (with_reducible refine bel_trans ?_ (by with_reducible assumption)))))⟩, by simp [intOf]; omega⟩
          · have hjm2 : j = m := by omega
            subst hjm2
            have hj1 : ¬ (j : Int) < (j : Int) := by omega
            have hA : oppAll l (i + 1) = oppAll l i ++ oppRow l i j := by rw [← HLM.out]; rfl
            rw [← hA] at hO
            have HO := Lib.hid hO
            clear hO hA
            go_wp2_with fail
            exact ⟨⟨i + 1, r, cr, B, hs, by omega, by omega, by go_num, rfl, HO.out, hb⟩, by simp [intOf]; omega⟩
      · have him : i = m := by omega
        subst him
        have hlt2 : ¬ (i : Int) < (i : Int) := by omega
        have HO : Hid (Own2 w2.heap.size wr B q cq hs (oppV xs)) := by rw [HV.out]; exact hO
        clear hO
        go_wp2
        go_ret
        exact ⟨B, q, cq, hs, rfl, HO.out.mono hsz2, (by (repeat (first | with_reducible exact Below.refl _ _ | with_reducible assumption | with_reducible apply bel_alloc | with_reducible apply bel_drew | with_reducible apply bel_drewN | ((with_reducible refine bel_set ?_ ?_); rotate_left; (simp <;> omega)) | (with_reducible refine bel_trans ?_ (by with_reducible assumption)))))⟩
theorem grown_comp {a w w' : World} {r r' : Option Nat} (h : a.grownBy w r) (h' : w.grownBy w' r') (hr : ∀ g, r' = some g → r = some g ∨ a.heap.size ≤ g) : a.grownBy w' r :=
  ⟨h'.os.trans h.os, h'.tape.trans h.tape, h'.output.trans h.output, Nat.le_trans h.size h'.size, fun k hk hne => (h'.block k (Nat.lt_of_lt_of_le hk h.size) (fun e => by
    rcases hr k e.symm with h1 | h1
    · exact hne h1.symm
    · omega)).trans (h.block k hk hne)⟩
set_option maxHeartbeats 1600000 in
theorem OppositeFaces_s (A : Option Addr) (n c : Nat) (xs : List C) (w : World) (hr : Rd w A (vC xs)) (hl : xs.length = n) (hn : n ≤ 1099511627776) :
    Calls Try.prog 48 #[.slice A n c] w (RetO2 w (oppV xs)) := by
  have HL := Lib.hid hl
  have hini := own_new w 44 1 0 #[] rfl (by simp [maxLen]) (base := w.heap.size) (Nat.le_refl _)
  have hi2 := Own2.none_ hini
  have HI0 := Lib.hid hi2
  clear hini hi2
  cases hcn : isConn xs with
  | false =>
    have HV : Hid (oppV xs = []) := by show oppV xs = []; unfold oppV; rw [net_conn hcn]; rfl
    have HC := Lib.hid hcn
    clear hcn hl
    go_enter Try.func48, Try.ntmps48
    go_wp2_with fail
    refine (FacesOf_s _ _ _ xs _ (hr.alloc _) HL.out (by omega)).mono ?_
    rw [HC.out]
    rintro e w1 ⟨D, m, cap, rfl, ho, hb1⟩
    clear ho
    have HI := Lib.hid (HI0.out.below hb1)
    go_wp2_with fail
    go_ret
    exact ⟨_, 0, 0, [], rfl, by rw [HV.out]; exact HI.out, (by (repeat (first | with_reducible exact Below.refl _ _ | with_reducible assumption | with_reducible apply bel_alloc | with_reducible apply bel_drew | with_reducible apply bel_drewN | ((with_reducible refine bel_set ?_ ?_); rotate_left; (simp <;> omega)) | (with_reducible refine bel_trans ?_ (by with_reducible assumption)))))⟩
  | true =>
  cases hc : netV xs with
  | false =>
    have HV : Hid (oppV xs = []) := by show oppV xs = []; unfold oppV; rw [hc]; rfl
    have HC := Lib.hid hc
    have HCN := Lib.hid hcn
    clear hc hcn hl
    go_enter Try.func48, Try.ntmps48
    go_wp2_with fail
    refine (FacesOf_s _ _ _ xs _ (hr.alloc _) HL.out (by omega)).mono ?_
    rw [HCN.out]
    rintro e w1 ⟨D, m, cap, rfl, ho, hb1⟩
    clear ho
    go_wp2_with fail
    refine (IsCubeNet_s _ _ _ xs _ ((hr.alloc _).below hb1) HL.out (by omega)).mono ?_
    rw [HC.out]
    rintro e w2 ⟨rfl, hb2⟩
    have HI := Lib.hid (HI0.out.below (bel_trans hb1 hb2))
    go_wp2_with fail
    go_ret
    exact ⟨_, 0, 0, [], rfl, by rw [HV.out]; exact HI.out, (by (repeat (first | with_reducible exact Below.refl _ _ | with_reducible assumption | with_reducible apply bel_alloc | with_reducible apply bel_drew | with_reducible apply bel_drewN | ((with_reducible refine bel_set ?_ ?_); rotate_left; (simp <;> omega)) | (with_reducible refine bel_trans ?_ (by with_reducible assumption)))))⟩
  | true =>
    have hV : oppV xs = oppAll (faces xs) (faces xs).length := by unfold oppV; rw [hc]; rfl
    have hfl := faces_le8 hcn
    have HC := Lib.hid hc
    have HC2 := Lib.hid hcn
    have HV0 := Lib.hid hV
    clear hc hcn hl hV
    go_enter Try.func48, Try.ntmps48
    go_wp2_with fail
    refine (FacesOf_s _ _ _ xs _ (hr.alloc _) HL.out (by omega)).mono ?_
    rw [HC2.out]
    rintro e w1 ⟨D, m, cap, rfl, ho, hb1⟩
    have hV := HV0.out
    clear HV0
    generalize faces xs = l at hV ho hfl
    have hlm : l.length = m := by have := own_len ho; rw [vI_length] at this; omega
    rw [hlm] at hV hfl
    have HV := Lib.hid hV
    have HLM := Lib.hid hlm
    have HD := Lib.hid ho
    clear hlm ho hV
    go_wp2_with fail
    refine (IsCubeNet_s _ _ _ xs _ ((hr.alloc _).below hb1) HL.out (by omega)).mono ?_
    rw [HC.out]
    rintro e w2 ⟨rfl, hb2⟩
    have HRD := Lib.hid (Rd.of_own (own_keep HD.out hb2))
    have HDN : Hid (∀ g, ob D = some g → some g ≠ some w.heap.size) := by
      intro g e h
      injection h with h
      have := (own_lt HD.out g e).1
      simp only [World.size_alloc] at this
      omega
    have HI := Lib.hid (HI0.out.below (bel_trans hb1 hb2))
    have hbw2 : Below w.heap.size w w2 := (by (repeat (first | with_reducible exact Below.refl _ _ | with_reducible assumption | with_reducible apply bel_alloc | with_reducible apply bel_drew | with_reducible apply bel_drewN | ((with_reducible refine bel_set ?_ ?_); rotate_left; (simp <;> omega)) | (with_reducible refine bel_trans ?_ (by with_reducible assumption)))))
    have hsz2 := hbw2.size
    clear HD HI0
    go_wp2_with fail
    go_loopw [6, 3] (fun e8 e5 wr => ∃ (i q cq : Nat) (B : Option Addr) (hs : List H), i ≤ m ∧ q ≤ 8 * i ∧ e8 = .int .i64 i ∧ e5 = .slice B q cq ∧ Own2 w.heap.size wr B q cq hs (oppAll l i) ∧ w2.grownBy wr (some w.heap.size) ∧ (∀ g, ob B = some g → g = w.heap.size ∨ w2.heap.size ≤ g)) (fun e8 e5 _ => m - (intOf e8).toNat)
    case atStart => exact ⟨0, 0, 0, _, [], by omega, by omega, rfl, rfl, HI.out, World.grownBy.refl _ _, fun g e => by simp only [ob, Option.map_some, Option.some.injEq] at e; exact .inl e.symm⟩
    case round =>
      skip
      obtain ⟨i, q, cq, B, hs, hi, hq8, rfl, rfl, hO, hb, hBB⟩ := hrel
      by_cases hlt : i < m
      · have hil : i < l.length := by rw [HLM.out]; exact hlt
        have hi0 : (0 : Int) ≤ (i : Int) := by omega
        have hi1 : (i : Int) < (m : Int) := by omega
        have HO := Lib.hid hO
        clear hO
        obtain ⟨x, hx⟩ : ∃ x, l[i] = x := ⟨_, rfl⟩
        have hgx := getD_at hil hx
        have HGX := Lib.hid hgx
        have HX := Lib.hid hx
        clear hgx hx
        go_wp2_with fail
        go_loopw [7, 3] (fun e7 e5 wr => ∃ (j r cr : Nat) (B : Option Addr) (hs : List H), i < j ∧ j ≤ m ∧ r ≤ 8 * i + j ∧ e7 = .int .i64 j ∧ e5 = .slice B r cr ∧ Own2 w.heap.size wr B r cr hs (oppAll l i ++ oppRow l i j) ∧ w2.grownBy wr (some w.heap.size) ∧ (∀ g, ob B = some g → g = w.heap.size ∨ w2.heap.size ≤ g)) (fun e7 e5 _ => m - (intOf e7).toNat)
        case atStart => exact ⟨i + 1, q, cq, B, hs, by omega, by omega, by omega, by go_num, rfl, by rw [oppRow_start l i (i + 1) (Nat.le_refl _), List.append_nil]; exact HO.out, hb, hBB⟩
        case round =>
          clear HO hb hBB
          obtain ⟨j, r, cr, B, hs, hij, hj, hr8, rfl, rfl, hO, hb, hBB⟩ := hrel
          by_cases hjm : j < m
          · have hjl : j < l.length := by rw [HLM.out]; exact hjm
            have hj0 : (0 : Int) ≤ (j : Int) := by omega
            have hj1 : (j : Int) < (m : Int) := by omega
            obtain ⟨g, off, hD, hg, c1⟩ := RdI.at_ (HRD.out.grown hb HDN.out) hil
            subst hD
            obtain ⟨g', off', he, _, c2⟩ := RdI.at_ (HRD.out.grown hb HDN.out) hjl
            simp only [Option.some.injEq, Addr.mk.injEq, and_true] at he
            obtain ⟨rfl, rfl⟩ := he
            rw [HX.out] at c1
            obtain ⟨y, hy⟩ : ∃ y, l[j] = y := ⟨_, rfl⟩
            have hgy := getD_at hjl hy
            rw [hy] at c2
            clear hy
            have HO := Lib.hid hO
            clear hO
            have hbz := hb.size
            by_cases hxy : (half x == half y) = true
            · have HN := Lib.hid (oppRow_yes HGX.out hgy hij hxy)
              unfold half at hxy
              clear hgy
              skip
              go_wp2_with fail
              (refine wp_region_below (by kernel_rfl) (by kernel_rfl) ?_; (repeat (first | go_big_quiet_skip | (refine quietV (v := ?_) (by rfl) rfl (fun w' hbw => ?_) ?_; rotate_left; ((try dsimp only at hbw); have hbc := (bcell hbw).1; have hbf := (bcell hbw).2; go_simp; first | done | with_reducible rfl | fail); simp only [List.setIfInBounds_toArray, List.set_cons_zero, List.set_cons_succ]))); refine wpQuiet_nil ?_; intro wq hbq)
              have HO2 := Lib.hid (HO.out.below hbq)
              have hwq : w.heap.size ≤ wq.heap.size := by have := hbq.size; omega
              have hrn : Rd ((wq.alloc (.cells #[.int .i64 i, .int .i64 j] 3)).alloc (.cells #[.slice (some ⟨wq.heap.size, 0, none⟩) 2 2] 44)) (some ⟨wq.heap.size + 1, 0, none⟩) (vS [(some ⟨wq.heap.size, 0, none⟩, 2, 2)]) := by
                have := rd_newS (wq.alloc (.cells #[.int .i64 i, .int .i64 j] 3)) 44 (some ⟨wq.heap.size, 0, none⟩, 2, 2)
                rw [show (wq.alloc (.cells #[.int .i64 i, .int .i64 j] 3)).heap.size = wq.heap.size + 1 from by simp] at this
                exact this
              have HRN := Lib.hid hrn
              clear HO hrn
              go_wp2_with (at_builtin; go_must (refine app_S _ rfl _ _ rfl w.heap.size _ _ _ hs rfl ((HO2.out.own.alloc _).alloc _) _ _ _ [(some ⟨wq.heap.size, 0, none⟩, 2, 2)] rfl HRN.out rfl (by omega) (by simp; omega) ?_); intro B2 c3 w6 hoB hgB2 hatB; have HOB6 := Lib.hid hoB; have HGB6 := Lib.hid hgB2; have HATB6 := Lib.hid hatB; clear hoB hgB2 hatB)
              have hP := Own2.push HO2.out (f := [(i : Int), (j : Int)]) ((own_new wq 3 1 2 #[.int .i64 i, .int .i64 j] rfl (by simp [maxLen]) hwq).alloc _) (Nat.le_refl _) (bel_alloc (bel_alloc (Below.refl _ _) _) _) HOB6.out HGB6.out HATB6.out
              have HP := Lib.hid hP
              have hbz2 := hbq.size
              have hb6 : w2.grownBy w6 (some w.heap.size) := by
                refine grown_comp (grown_below hb (bel_trans hbq (bel_alloc (bel_alloc (Below.refl _ _) _) _))) HGB6.out (fun g h => ?_)
                rcases hBB g h with h1 | h1
                · exact .inl (by rw [h1])
                · exact .inr h1
              have hB6 : ∀ g, ob B2 = some g → g = w.heap.size ∨ w2.heap.size ≤ g := fun g e => by
                rcases HATB6.out with h1 | h1
                · exact hBB g (h1 ▸ e)
                · rw [h1] at e
                  injection e with e
                  right
                  simp only [World.size_alloc] at e
                  omega
              clear hP
              exact ⟨⟨j + 1, r + 1, c3, B2, _, by omega, by omega, by omega, by go_num, rfl, by rw [HN.out, ← List.append_assoc]; exact HP.out, hb6, hB6⟩, by simp [intOf]; omega⟩
            · have hxy2 : (half x == half y) = false := by simpa using hxy
              have HN := Lib.hid (oppRow_no HGX.out hgy hxy2)
              unfold half at hxy2
              clear hxy hgy
              go_wp2_with fail
              (refine wp_region_below (by kernel_rfl) (by kernel_rfl) ?_; (repeat (first | go_big_quiet_skip | (refine quietV (v := ?_) (by rfl) rfl (fun w' hbw => ?_) ?_; rotate_left; ((try dsimp only at hbw); have hbc := (bcell hbw).1; have hbf := (bcell hbw).2; go_simp; first | done | with_reducible rfl | fail); simp only [List.setIfInBounds_toArray, List.set_cons_zero, List.set_cons_succ]))); refine wpQuiet_nil ?_; intro wq hbq)
              have HO2 := Lib.hid (HO.out.below hbq)
              clear HO
              go_wp2_with fail
              exact ⟨⟨j + 1, r, cr, B, hs, by omega, by omega, by omega, by go_num, rfl, by rw [HN.out]; exact HO2.out, grown_below hb hbq, hBB⟩, by simp [intOf]; omega⟩
          · have hjm2 : j = m := by omega
            subst hjm2
            have hj1 : ¬ (j : Int) < (j : Int) := by omega
            have hA : oppAll l (i + 1) = oppAll l i ++ oppRow l i j := by rw [← HLM.out]; rfl
            rw [← hA] at hO
            have HO := Lib.hid hO
            clear hO hA
            go_wp2_with fail
            exact ⟨⟨i + 1, r, cr, B, hs, by omega, by omega, by go_num, rfl, HO.out, hb, hBB⟩, by simp [intOf]; omega⟩
      · have him : i = m := by omega
        subst him
        have hlt2 : ¬ (i : Int) < (i : Int) := by omega
        have HO : Hid (Own2 w.heap.size wr B q cq hs (oppV xs)) := by rw [HV.out]; exact hO
        clear hO
        go_wp2
        go_ret
        exact ⟨B, q, cq, hs, rfl, HO.out, hbw2.grown hb hsz2 (fun k e => by injection e with e; omega)⟩
end Go.Proofs.Ytemmbpmgfjodnaa
