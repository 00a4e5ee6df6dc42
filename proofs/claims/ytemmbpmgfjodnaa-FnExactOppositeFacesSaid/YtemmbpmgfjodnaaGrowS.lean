/- The order of growth. -/
import Derived.Test.YtemmbpmgfjodnaaShape
import Derived.Test.YtemmbpmgfjodnaaTree
import Derived.Test.YtemmbpmgfjodnaaGrow
import Derived.Test.YtemmbpmgfjodnaaApp
import Derived.Test.YtemmbpmgfjodnaaReg
import Derived.Test.YtemmbpmgfjodnaaQreg
import Derived.Outline
import Derived.WalkLawsBesides
import Derived.WalkSpells
import Derived.BigQuiet
import Derived.Deep.QuietTactic
import Derived.Deep.RegionHeld3
import Derived.Deep.RegionWith
import Derived.Deep.DeepCutAuto
import Derived.Deep.CutBlock
import Derived.Deep.DrawnRows
namespace Go.Proofs.Ytemmbpmgfjodnaa
open Go.RowKit
set_option linter.unusedVariables false
attribute [local go_sem ↓] Go.wp_at_zero Go.wp_at_succ

def lenV (v : Value) : Nat := match v with
  | .slice _ n _ => n
  | _ => 0
noncomputable def growSteps (xs : List C) : List C := if isConn xs then grownBy xs (xs.length - 1) else []
theorem find_at {α : Type} {p : α → Bool} {xs : List α} {j : Nat} (hj : j < xs.length) (h : ∀ c ∈ xs.take j, p c = false) (h1 : p xs[j] = true) : xs.find? p = some xs[j] := by
  have e : xs = xs.take j ++ xs[j] :: xs.drop (j + 1) := by rw [← List.drop_eq_getElem_cons hj, List.take_append_drop]
  have h2 : (xs.take j).find? p = none := by rw [List.find?_eq_none]; intro c hc; rw [h c hc]; simp
  conv => lhs; rw [e]
  rw [List.find?_append, h2, List.find?_cons, h1]; rfl
theorem takeP_all {xs : List C} {k : Nat} {P : C → Prop} (hk : k < xs.length) (h : ∀ c ∈ xs.take k, P c) (h1 : P xs[k]) : ∀ c ∈ xs.take (k + 1), P c := by
  intro c hc
  rw [List.take_succ_eq_append_getElem hk, List.mem_append, List.mem_singleton] at hc
  rcases hc with hc | hc
  · exact h c hc
  · rw [hc]; exact h1
theorem grownBy_next {xs : List C} {k j : Nat} (hj : j < xs.length) (h : ∀ c ∈ xs.take j, nextTo (grownBy xs k) c = false) (h1 : nextTo (grownBy xs k) xs[j] = true) : grownBy xs (k + 1) = grownBy xs k ++ [xs[j]] := by
  simp only [grownBy, find_at hj h h1]; rfl
theorem grownBy_none {xs : List C} {k : Nat} (hc : isConn xs = true) (hk : k + 1 < xs.length) (h : ∀ c ∈ xs, nextTo (grownBy xs k) c = false) : False := by
  have hcn : conn xs = true := by simp only [isConn, Bool.and_eq_true] at hc; exact hc.2
  have hnd := shape_nodup (conn_shape hc)
  obtain ⟨c, hf⟩ := next_some hcn hnd (grownBy_s0 xs k) (by rw [grownBy_len hcn hnd k (by omega)]; omega)
  have := List.find?_some hf
  rw [h c (List.mem_of_find?_eq_some hf)] at this
  cases this
theorem growSteps_len (xs : List C) : (growSteps xs).length ≤ 1048576 := by
  unfold growSteps
  split
  · next h =>
    have hs := conn_shape h
    have := shape_len hs
    have hcn : conn xs = true := by simp only [isConn, Bool.and_eq_true] at h; exact h.2
    rw [grownBy_len hcn (shape_nodup hs) _ (by omega)]; omega
  · simp
set_option maxHeartbeats 1600000 in
theorem GrowthSteps_i (A : Option Addr) (n c : Nat) (xs : List C) (w : World) (hr : Rd w A (vC xs)) (hl : xs.length = n) (hn : n ≤ 1099511627776) :
    Calls Try.prog 32 #[.slice A n c] w (RetS2 w 60 2 (vC (growSteps xs)) (.bool (isConn xs))) := by
  have HL := Lib.hid hl
  cases hc : isConn xs with
  | false =>
    have HV : Hid (growSteps xs = []) := by show growSteps xs = []; unfold growSteps; rw [hc]; rfl
    have HC := Lib.hid hc
    clear hc hl
    go_enter Try.func32, Try.ntmps32
    go_wp2_with (go_at_call 71; refine (IsConnectedShape_i _ _ _ xs _ hr HL.out (by omega)).mono ?_; rw [HC.out]; rintro e w1 ⟨rfl, hb1⟩)
    go_ret2
    exact ⟨none, 0, 0, rfl, by rw [HV.out]; exact own_nil _ _ _ _, (by (repeat (first | with_reducible exact Below.refl _ _ | with_reducible assumption | with_reducible apply bel_alloc | with_reducible apply bel_drew | with_reducible apply bel_drewN | ((with_reducible refine bel_set ?_ ?_); rotate_left; (simp <;> omega)) | (with_reducible refine bel_trans ?_ (by with_reducible assumption)))))⟩
  | true =>
    have HV : Hid (growSteps xs = grownBy xs (n - 1)) := by show growSteps xs = _; unfold growSteps; rw [hc, hl]; rfl
    have hs := conn_shape hc
    have hcn : conn xs = true := by simp only [isConn, Bool.and_eq_true] at hc; exact hc.2
    have hnd := shape_nodup hs
    have hlen := shape_len hs
    have hsm := shape_small hs
    have hn8 : n ≤ 8 := by omega
    have hn1 : 1 ≤ n := by omega
    have hnp : (0 : Int) < (n : Int) := by omega
    have h0x : 0 < xs.length := by omega
    have hs0 : xs[0] = s0 xs := by simp [s0, List.getD_eq_getElem?_getD, h0x]
    have HGL : Hid (∀ k, k < n → (grownBy xs k).length = k + 1) := fun k hk => grownBy_len hcn hnd k (by omega)
    have HGS : Hid (∀ k, ∀ d ∈ grownBy xs k, small d) := fun k d hd => hsm d (grownBy_sub (by intro h; rw [h] at h0x; simp at h0x) k d hd)
    have HSM := Lib.hid hsm
    have HC := Lib.hid hc
    have HS0 := Lib.hid hs0
    clear hc hs hcn hnd hlen hsm hl hn hs0
    go_enter Try.func32, Try.ntmps32
    go_wp2_with fail
    refine (IsConnectedShape_i _ _ _ xs _ hr HL.out (by omega)).mono ?_
    rw [HC.out]
    rintro e w1 ⟨rfl, hb1⟩
    obtain ⟨g0, off0, hA0, hg0, z1, z2⟩ := RdC.at_ (hr.below hb1) h0x
    rw [HS0.out] at z1 z2
    simp only [Nat.zero_mul, Nat.add_zero] at z1 z2
    obtain ⟨⟨zx, zy⟩, hz⟩ : ∃ p, s0 xs = p := ⟨_, rfl⟩
    rw [hz] at z1 z2
    have HZ := Lib.hid hz
    clear hz
    subst hA0
    have hbs := hb1.size
    go_wp2_with fail
    go_loopw [4] (fun e wr => ∃ (k m cap : Nat) (B : Option Addr), k < n ∧ m = k + 1 ∧ e = .slice B m cap ∧ wr.ownsRow w.heap.size 60 2 (.slice B m cap) m (vC (grownBy xs k)) ∧ Below w.heap.size w wr) (fun e _ => n - lenV e)
    case atStart => exact ⟨0, 1, 1, _, by omega, rfl, rfl, by simp only [grownBy]; rw [HZ.out]; exact own_newC _ _ _ _ hbs, (by (repeat (first | with_reducible exact Below.refl _ _ | with_reducible assumption | with_reducible apply bel_alloc | with_reducible apply bel_drew | with_reducible apply bel_drewN | ((with_reducible refine bel_set ?_ ?_); rotate_left; (simp <;> omega)) | (with_reducible refine bel_trans ?_ (by with_reducible assumption)))))⟩
    case round =>
      clear HZ hb1 z1 z2 hg0 hbs
      obtain ⟨k, m, cap, B, hk, hmk, rfl, hown, hb⟩ := hrel
      by_cases hlt : m < n
      · have HO := Lib.hid hown
        have HM := Lib.hid hmk
        have hlt2 : (m : Int) < (n : Int) := by omega
        clear hown hmk
        go_wp2_with fail
        go_loopw [4, 21] (fun e i wr => ∃ j : Nat, j ≤ n ∧ e = .slice B m cap ∧ i = .int .i64 j ∧ (∀ c ∈ xs.take j, nextTo (grownBy xs k) c = false) ∧ wr.ownsRow w.heap.size 60 2 (.slice B m cap) m (vC (grownBy xs k)) ∧ Below w.heap.size w wr) (fun _ i _ => n - (intOf i).toNat)
        case atStart => exact ⟨0, Nat.zero_le _, rfl, rfl, by simp, HO.out, hb⟩
        case round =>
          clear HO hb
          obtain ⟨j, hj, rfl, rfl, hno, hown, hb⟩ := hrel
          by_cases hlj : j < n
          · have hjx : j < xs.length := by rw [HL.out]; omega
            have hrw := hr.below hb
            obtain ⟨g, off, hA, hgw, c1, c2⟩ := RdC.at_ hrw hjx
            simp only [Option.some.injEq, Addr.mk.injEq, and_true] at hA
            obtain ⟨rfl, rfl⟩ := hA
            have hte := touchI_eq (HGS.out k) (HSM.out _ (List.getElem_mem hjx))
            have HNX : Hid (nextTo (grownBy xs k) xs[j] = true → grownBy xs (k + 1) = grownBy xs k ++ [xs[j]]) := fun h => grownBy_next hjx hno h
            have HNO : Hid (nextTo (grownBy xs k) xs[j] = false → ∀ c ∈ xs.take (j + 1), nextTo (grownBy xs k) c = false) := fun h => takeP_all hjx hno h
            have HDF : Hid (nextTo (grownBy xs k) xs[j] = (!hasC (grownBy xs k) xs[j].1 xs[j].2 && touch (grownBy xs k) xs[j])) := rfl
            obtain ⟨⟨x, y⟩, hx⟩ : ∃ p, xs[j] = p := ⟨_, rfl⟩
            rw [hx] at c1 c2 hte HNX HNO HDF
            have hgl := HGL.out k hk
            have hglm : (grownBy xs k).length = m := by have := HM.out; omega
            have HG := Lib.hid hglm
            have HT := Lib.hid hte
            have HO := Lib.hid hown
            have rs := Rd.of_own hown
            have hbs := hb.size
            clear hno hown hte hx hgl hglm
            have hm12 : m ≤ 1099511627776 := by omega
            have hcall := HasCell_i B m cap (grownBy xs k) x y _ (rs.alloc (.cells #[.int .i64 x, .int .i64 y] 60)) HG.out hm12
            have HCALL := Lib.hid hcall
            clear hcall
            cases hh : hasC (grownBy xs k) x y with
            | true =>
              have HN := Lib.hid (HNO.out (by simp [HDF.out, hh]))
              have HH := Lib.hid hh
              clear hh HNX HNO HDF
              go_wp2_with (go_at_call 72; refine Calls.mono HCALL.out ?_; rw [HH.out]; rintro e w1 ⟨rfl, hb1⟩; have HO2 := Lib.hid (own_keep (HO.out.alloc _) hb1))
              exact ⟨⟨j + 1, by omega, rfl, by go_num, HN.out, HO2.out, (by (repeat (first | with_reducible exact Below.refl _ _ | with_reducible assumption | with_reducible apply bel_alloc | with_reducible apply bel_drew | with_reducible apply bel_drewN | ((with_reducible refine bel_set ?_ ?_); rotate_left; (simp <;> omega)) | (with_reducible refine bel_trans ?_ (by with_reducible assumption)))))⟩, by simp [intOf]; omega⟩
            | false =>
              have HH := Lib.hid hh
              cases ht : touch (grownBy xs k) (x, y) with
              | false =>
                have HN := Lib.hid (HNO.out (by simp [HDF.out, hh, ht]))
                rw [ht] at HT
                clear hh ht HNX HNO HDF
                go_wp2_with fail
                refine Calls.mono HCALL.out ?_
                rw [HH.out]
                rintro e w1 ⟨rfl, hb1⟩
                have z1 : w1.cell? ⟨wr.heap.size, 0, none⟩ = some (.int .i64 x) := by simpa using ((Blk.new wr 60 #[.int .i64 x, .int .i64 y]).below hb1).cell 0
                have z2 : w1.cell? ⟨wr.heap.size, 1, none⟩ = some (.int .i64 y) := by simpa using ((Blk.new wr 60 #[.int .i64 x, .int .i64 y]).below hb1).cell 1
                have rs1 := (rs.alloc (.cells #[.int .i64 x, .int .i64 y] 60)).below hb1
                have HO1 := Lib.hid (own_keep (HO.out.alloc (.cells #[.int .i64 x, .int .i64 y] 60)) hb1)
                go_wp2_with fail
                refine (touches_i _ _ _ (grownBy xs k) _ _ _ rs1 HG.out (by omega)).mono ?_
                rw [HT.out]
                rintro e w2 ⟨rfl, hb2⟩
                have HO2 := Lib.hid (own_keep HO1.out hb2)
                go_wp2_with fail
                exact ⟨⟨j + 1, by omega, rfl, by go_num, HN.out, HO2.out, (by (repeat (first | with_reducible exact Below.refl _ _ | with_reducible assumption | with_reducible apply bel_alloc | with_reducible apply bel_drew | with_reducible apply bel_drewN | ((with_reducible refine bel_set ?_ ?_); rotate_left; (simp <;> omega)) | (with_reducible refine bel_trans ?_ (by with_reducible assumption)))))⟩, by simp [intOf]; omega⟩
              | true =>
                have HN := Lib.hid (HNX.out (by simp [HDF.out, hh, ht]))
                rw [ht] at HT
                clear hh ht HNX HNO HDF
                go_wp2_with fail
                refine Calls.mono HCALL.out ?_
                rw [HH.out]
                rintro e w1 ⟨rfl, hb1⟩
                have z1 : w1.cell? ⟨wr.heap.size, 0, none⟩ = some (.int .i64 x) := by simpa using ((Blk.new wr 60 #[.int .i64 x, .int .i64 y]).below hb1).cell 0
                have z2 : w1.cell? ⟨wr.heap.size, 1, none⟩ = some (.int .i64 y) := by simpa using ((Blk.new wr 60 #[.int .i64 x, .int .i64 y]).below hb1).cell 1
                have rs1 := (rs.alloc (.cells #[.int .i64 x, .int .i64 y] 60)).below hb1
                have HO1 := Lib.hid (own_keep (HO.out.alloc (.cells #[.int .i64 x, .int .i64 y] 60)) hb1)
                go_wp2_with fail
                refine (touches_i _ _ _ (grownBy xs k) _ _ _ rs1 HG.out (by omega)).mono ?_
                rw [HT.out]
                rintro e w2 ⟨rfl, hb2⟩
                have y1 := keep_below hb2 z1
                have y2 := keep_below hb2 z2
                have HO2 := Lib.hid (own_keep HO1.out hb2)
                have hbw : Below w.heap.size w w2 := (by (repeat (first | with_reducible exact Below.refl _ _ | with_reducible assumption | with_reducible apply bel_alloc | with_reducible apply bel_drew | with_reducible apply bel_drewN | ((with_reducible refine bel_set ?_ ?_); rotate_left; (simp <;> omega)) | (with_reducible refine bel_trans ?_ (by with_reducible assumption)))))
                have hbwz := hbw.size
                go_wp2_with (at_builtin; go_must (refine app_C _ rfl _ _ rfl w.heap.size _ _ _ _ rfl (HO2.out.alloc _) _ _ _ [(x, y)] rfl (rd_newC _ _ _ _) rfl (by omega) (by simp; omega) ?_); intro A' c' w' hown' hg' hat'; have HO3 := Lib.hid hown'; have HBG := Lib.hid (bel_app (bel_alloc hbw _) hg' (fun g' hg1 => ((own_lt HO2.out) g' hg1).1)); clear hown' hg' hat')
                exact ⟨⟨k + 1, m + 1, c', A', by have := HM.out; omega, by rw [HM.out], rfl, by rw [HN.out]; exact HO3.out, HBG.out⟩, by simp [lenV]; omega⟩
          · exfalso
            have hjn : j = n := by omega
            rw [List.take_of_length_le (by rw [HL.out]; omega)] at hno
            exact grownBy_none HC.out (by rw [HL.out]; have := HM.out; omega) hno
      · have hkn : k = n - 1 := by omega
        have hlt2 : ¬ (m : Int) < (n : Int) := by omega
        rw [hkn, ← HV.out] at hown
        have HO := Lib.hid hown
        clear hown hkn hmk
        go_wp2
        go_ret2
        exact ⟨_, _, _, rfl, HO.out, (by (repeat (first | with_reducible exact Below.refl _ _ | with_reducible assumption | with_reducible apply bel_alloc | with_reducible apply bel_drew | with_reducible apply bel_drewN | ((with_reducible refine bel_set ?_ ?_); rotate_left; (simp <;> omega)) | (with_reducible refine bel_trans ?_ (by with_reducible assumption)))))⟩
set_option maxHeartbeats 1600000 in
theorem GrowthSteps_s (A : Option Addr) (n c : Nat) (xs : List C) (w : World) (hr : Rd w A (vC xs)) (hl : xs.length = n) (hn : n ≤ 1099511627776) :
    Calls Try.prog 31 #[.slice A n c] w (RetS2 w 60 2 (vC (growSteps xs)) (.bool (isConn xs))) := by
  have HL := Lib.hid hl
  cases hc : isConn xs with
  | false =>
    have HV : Hid (growSteps xs = []) := by show growSteps xs = []; unfold growSteps; rw [hc]; rfl
    have HC := Lib.hid hc
    clear hc hl
    go_enter Try.func31, Try.ntmps31
    go_wp2_with (go_at_call 68; refine (IsConnectedShape_s _ _ _ xs _ hr HL.out (by omega)).mono ?_; rw [HC.out]; rintro e w1 ⟨rfl, hb1⟩)
    go_ret2
    exact ⟨_, 0, 0, rfl, by rw [HV.out]; exact own_new _ _ 2 0 #[] rfl (by simp [maxLen]) (by have := hb1.size; omega), (by (repeat (first | with_reducible exact Below.refl _ _ | with_reducible assumption | with_reducible apply bel_alloc | with_reducible apply bel_drew | with_reducible apply bel_drewN | ((with_reducible refine bel_set ?_ ?_); rotate_left; (simp <;> omega)) | (with_reducible refine bel_trans ?_ (by with_reducible assumption)))))⟩
  | true =>
    have HV : Hid (growSteps xs = grownBy xs (n - 1)) := by show growSteps xs = _; unfold growSteps; rw [hc, hl]; rfl
    have hs := conn_shape hc
    have hcn : conn xs = true := by simp only [isConn, Bool.and_eq_true] at hc; exact hc.2
    have hnd := shape_nodup hs
    have hlen := shape_len hs
    have hsm := shape_small hs
    have hn8 : n ≤ 8 := by omega
    have hn1 : 1 ≤ n := by omega
    have hnp : (0 : Int) < (n : Int) := by omega
    have h0x : 0 < xs.length := by omega
    have hs0 : xs[0] = s0 xs := by simp [s0, List.getD_eq_getElem?_getD, h0x]
    have HGL : Hid (∀ k, k < n → (grownBy xs k).length = k + 1) := fun k hk => grownBy_len hcn hnd k (by omega)
    have HGS : Hid (∀ k, ∀ d ∈ grownBy xs k, small d) := fun k d hd => hsm d (grownBy_sub (by intro h; rw [h] at h0x; simp at h0x) k d hd)
    have HSM := Lib.hid hsm
    have HC := Lib.hid hc
    have HS0 := Lib.hid hs0
    clear hc hs hcn hnd hlen hsm hl hn hs0
    go_enter Try.func31, Try.ntmps31
    go_wp2_with fail
    refine (IsConnectedShape_s _ _ _ xs _ hr HL.out (by omega)).mono ?_
    rw [HC.out]
    rintro e w1 ⟨rfl, hb1⟩
    obtain ⟨g0, off0, hA0, hg0, z1, z2⟩ := RdC.at_ (hr.below hb1) h0x
    rw [HS0.out] at z1 z2
    simp only [Nat.zero_mul, Nat.add_zero] at z1 z2
    obtain ⟨⟨zx, zy⟩, hz⟩ : ∃ p, s0 xs = p := ⟨_, rfl⟩
    rw [hz] at z1 z2
    have HZ := Lib.hid hz
    clear hz
    subst hA0
    have hbs := hb1.size
    go_wp2_with fail
    go_loopw [4] (fun e wr => ∃ (k m cap : Nat) (B : Option Addr), k < n ∧ m = k + 1 ∧ e = .slice B m cap ∧ wr.ownsRow w.heap.size 60 2 (.slice B m cap) m (vC (grownBy xs k)) ∧ Below w.heap.size w wr) (fun e _ => n - lenV e)
    case atStart => exact ⟨0, 1, 1, _, by omega, rfl, rfl, by simp only [grownBy]; rw [HZ.out]; exact own_newC _ _ _ _ hbs, (by (repeat (first | with_reducible exact Below.refl _ _ | with_reducible assumption | with_reducible apply bel_alloc | with_reducible apply bel_drew | with_reducible apply bel_drewN | ((with_reducible refine bel_set ?_ ?_); rotate_left; (simp <;> omega)) | (with_reducible refine bel_trans ?_ (by with_reducible assumption)))))⟩
    case round =>
      clear HZ hb1 z1 z2 hg0 hbs
      obtain ⟨k, m, cap, B, hk, hmk, rfl, hown, hb⟩ := hrel
      by_cases hlt : m < n
      · have HO := Lib.hid hown
        have HM := Lib.hid hmk
        have hlt2 : (m : Int) < (n : Int) := by omega
        clear hown hmk
        go_wp2_with fail
        go_loopw [4, 5] (fun e i wr => ∃ j : Nat, j ≤ n ∧ e = .slice B m cap ∧ i = .int .i64 j ∧ (∀ c ∈ xs.take j, nextTo (grownBy xs k) c = false) ∧ wr.ownsRow w.heap.size 60 2 (.slice B m cap) m (vC (grownBy xs k)) ∧ Below w.heap.size w wr) (fun _ i _ => n - (intOf i).toNat)
        case atStart => exact ⟨0, Nat.zero_le _, rfl, rfl, by simp, HO.out, hb⟩
        case round =>
          clear HO hb
          obtain ⟨j, hj, rfl, rfl, hno, hown, hb⟩ := hrel
          by_cases hlj : j < n
          · have hjx : j < xs.length := by rw [HL.out]; omega
            have hrw := hr.below hb
            obtain ⟨g, off, hA, hgw, c1, c2⟩ := RdC.at_ hrw hjx
            simp only [Option.some.injEq, Addr.mk.injEq, and_true] at hA
            obtain ⟨rfl, rfl⟩ := hA
            have hte := touchS_eq (HGS.out k) (HSM.out _ (List.getElem_mem hjx))
            have HNX : Hid (nextTo (grownBy xs k) xs[j] = true → grownBy xs (k + 1) = grownBy xs k ++ [xs[j]]) := fun h => grownBy_next hjx hno h
            have HNO : Hid (nextTo (grownBy xs k) xs[j] = false → ∀ c ∈ xs.take (j + 1), nextTo (grownBy xs k) c = false) := fun h => takeP_all hjx hno h
            have HDF : Hid (nextTo (grownBy xs k) xs[j] = (!hasC (grownBy xs k) xs[j].1 xs[j].2 && touch (grownBy xs k) xs[j])) := rfl
            obtain ⟨⟨x, y⟩, hx⟩ : ∃ p, xs[j] = p := ⟨_, rfl⟩
            rw [hx] at c1 c2 hte HNX HNO HDF
            have hgl := HGL.out k hk
            have hglm : (grownBy xs k).length = m := by have := HM.out; omega
            have HG := Lib.hid hglm
            have HT := Lib.hid hte
            have HO := Lib.hid hown
            have rs := Rd.of_own hown
            have hbs := hb.size
            have hi0 : (0 : Int) ≤ (j : Int) := by omega
            have hi1 : (j : Int) < (n : Int) := by omega
            have hm12 : m ≤ 1099511627776 := by omega
            clear hno hown hte hx hgl hglm
            cases hh : hasC (grownBy xs k) x y with
            | true =>
              have HN := Lib.hid (HNO.out (by simp [HDF.out, hh]))
              have HH := Lib.hid hh
              clear hh HNX HNO HDF
              go_wp2_with fail
              (refine wp_region_below (by kernel_rfl) (by kernel_rfl) ?_; (repeat (first | go_big_quiet_skip | (refine quietV (v := ?_) (by rfl) rfl (fun w' hbw => ?_) ?_; rotate_left; ((try dsimp only at hbw); have hbc := (bcell hbw).1; have hbf := (bcell hbw).2; go_simp; first | done | with_reducible rfl | (go_at_call 69; exact callsBB (HasCell_s _ _ _ _ _ _ _ (rs.below hbw) HG.out hm12) HH.out hbw)); simp only [List.setIfInBounds_toArray, List.set_cons_zero, List.set_cons_succ]))); refine wpQuiet_nil ?_; intro w1 hb1)
              have HO2 := Lib.hid (own_keep HO.out hb1)
              go_wp2_with fail
              exact ⟨⟨j + 1, by omega, rfl, by go_num, HN.out, HO2.out, (by (repeat (first | with_reducible exact Below.refl _ _ | with_reducible assumption | with_reducible apply bel_alloc | with_reducible apply bel_drew | with_reducible apply bel_drewN | ((with_reducible refine bel_set ?_ ?_); rotate_left; (simp <;> omega)) | (with_reducible refine bel_trans ?_ (by with_reducible assumption)))))⟩, by simp [intOf]; omega⟩
            | false =>
              have HH := Lib.hid hh
              cases ht : touch (grownBy xs k) (x, y) with
              | false =>
                have HN := Lib.hid (HNO.out (by simp [HDF.out, hh, ht]))
                rw [ht] at HT
                clear hh ht HNX HNO HDF
                go_wp2_with fail
                (refine wp_region_below (by kernel_rfl) (by kernel_rfl) ?_; (repeat (first | go_big_quiet_skip | (refine quietV (v := ?_) (by rfl) rfl (fun w' hbw => ?_) ?_; rotate_left; ((try dsimp only at hbw); have hbc := (bcell hbw).1; have hbf := (bcell hbw).2; go_simp; first | done | with_reducible rfl | (first | (go_at_call 69; exact callsBB (HasCell_s _ _ _ _ _ _ _ (rs.below hbw) HG.out hm12) HH.out hbw) | (go_at_call 70; exact callsBB (l25Near_s _ _ _ _ _ _ _ (rs.below hbw) HG.out hm12) HT.out hbw))); simp only [List.setIfInBounds_toArray, List.set_cons_zero, List.set_cons_succ]))); refine wpQuiet_nil ?_; intro w1 hb1)
                have HO2 := Lib.hid (own_keep HO.out hb1)
                go_wp2_with fail
                exact ⟨⟨j + 1, by omega, rfl, by go_num, HN.out, HO2.out, (by (repeat (first | with_reducible exact Below.refl _ _ | with_reducible assumption | with_reducible apply bel_alloc | with_reducible apply bel_drew | with_reducible apply bel_drewN | ((with_reducible refine bel_set ?_ ?_); rotate_left; (simp <;> omega)) | (with_reducible refine bel_trans ?_ (by with_reducible assumption)))))⟩, by simp [intOf]; omega⟩
              | true =>
                have HN := Lib.hid (HNX.out (by simp [HDF.out, hh, ht]))
                rw [ht] at HT
                clear hh ht HNX HNO HDF
                go_wp2_with fail
                (refine wp_region_below (by kernel_rfl) (by kernel_rfl) ?_; (repeat (first | go_big_quiet_skip | (refine quietV (v := ?_) (by rfl) rfl (fun w' hbw => ?_) ?_; rotate_left; ((try dsimp only at hbw); have hbc := (bcell hbw).1; have hbf := (bcell hbw).2; go_simp; first | done | with_reducible rfl | (first | (go_at_call 69; exact callsBB (HasCell_s _ _ _ _ _ _ _ (rs.below hbw) HG.out hm12) HH.out hbw) | (go_at_call 70; exact callsBB (l25Near_s _ _ _ _ _ _ _ (rs.below hbw) HG.out hm12) HT.out hbw))); simp only [List.setIfInBounds_toArray, List.set_cons_zero, List.set_cons_succ]))); refine wpQuiet_nil ?_; intro w2 hb2)
                have y1 := keep_below hb2 c1
                have y2 := keep_below hb2 c2
                have HO2 := Lib.hid (own_keep HO.out hb2)
                have hbw : Below w.heap.size w w2 := (by (repeat (first | with_reducible exact Below.refl _ _ | with_reducible assumption | with_reducible apply bel_alloc | with_reducible apply bel_drew | with_reducible apply bel_drewN | ((with_reducible refine bel_set ?_ ?_); rotate_left; (simp <;> omega)) | (with_reducible refine bel_trans ?_ (by with_reducible assumption)))))
                have hbwz := hbw.size
                go_wp2_with (at_builtin; go_must (refine app_C _ rfl _ _ rfl w.heap.size _ _ _ _ rfl (HO2.out.alloc _) _ _ _ [(x, y)] rfl (rd_newC _ _ _ _) rfl (by omega) (by simp; omega) ?_); intro A' c' w' hown' hg' hat'; have HO3 := Lib.hid hown'; have HBG := Lib.hid (bel_app (bel_alloc hbw _) hg' (fun g' hg1 => ((own_lt HO2.out) g' hg1).1)); clear hown' hg' hat')
                exact ⟨⟨k + 1, m + 1, c', A', by have := HM.out; omega, by rw [HM.out], rfl, by rw [HN.out]; exact HO3.out, HBG.out⟩, by simp [lenV]; omega⟩
          · exfalso
            have hjn : j = n := by omega
            rw [List.take_of_length_le (by rw [HL.out]; omega)] at hno
            exact grownBy_none HC.out (by rw [HL.out]; have := HM.out; omega) hno
      · have hkn : k = n - 1 := by omega
        have hlt2 : ¬ (m : Int) < (n : Int) := by omega
        rw [hkn, ← HV.out] at hown
        have HO := Lib.hid hown
        clear hown hkn hmk
        go_wp2
        go_ret2
        exact ⟨_, _, _, rfl, HO.out, (by (repeat (first | with_reducible exact Below.refl _ _ | with_reducible assumption | with_reducible apply bel_alloc | with_reducible apply bel_drew | with_reducible apply bel_drewN | ((with_reducible refine bel_set ?_ ?_); rotate_left; (simp <;> omega)) | (with_reducible refine bel_trans ?_ (by with_reducible assumption)))))⟩
end Go.Proofs.Ytemmbpmgfjodnaa
