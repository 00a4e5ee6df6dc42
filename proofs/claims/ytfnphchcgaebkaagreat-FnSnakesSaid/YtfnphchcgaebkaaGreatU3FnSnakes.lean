/- Texts of this claim, one behind the other: part 3. -/
import Derived.Test.YtfnphchcgaebkaaGreatU2FnSnakes
import Derived.Outline
import Derived.WalkLawsBesides
import Derived.WalkSpells
import Derived.BigQuiet
import Derived.Deep.QuietTactic
import Derived.Deep.RegionHeld3
import Derived.Deep.RegionWith
import Derived.Deep.DeepCutAuto
import Derived.Deep.CutBlock
import Derived.Deep.DrawnRows
import Derived.StillTail
import Derived.OrdersHeld
import Derived.Laws.AppendOwn
import Derived.Shelf.Small.Bits
import Derived.Shelf.Strconv.Itoa0
import Derived.Ground.GgsProg
import Derived.Shelf.GgSortFunc.Insertion
import Derived.Shelf.GgSortFunc.Small
import Derived.Shelf.GgSortFunc.InsertionK
import Derived.Shelf.GgSortFunc.SmallK
import Derived.Shelf.GgSortFunc.Tiny
import Derived.Shelf.GgSortFunc.Compose
import Derived.Shelf.GgSortFunc.LotD
import Derived.Shelf.GgSortFunc.Pivot
import Derived.Shelf.GgSortFunc.Partition
import Derived.Shelf.GgSortFunc.Pdq
import Derived.Shelf.GgSortFunc.Whole
import Derived.Shelf.SlSortFunc.Xorshift
import Derived.Shelf.SlSortFuncK.ComposeK
import Derived.Shelf.SlSortFuncK.SiftDownK
import Derived.Shelf.SlSortFuncK.HeapSortK
import Derived.Shelf.SlSortFuncK.PartialInsertionK
import Derived.Shelf.SlSortFuncK.LotDK
import Derived.Shelf.SlSortFuncK.PivotK
import Derived.Shelf.SlSortFuncK.PartitionK
import Derived.Shelf.SlSortFunc.SiftDown
import Derived.Shelf.SlSortFunc.HeapSort
import Derived.Shelf.SlSortFunc.PartialInsertion
import Derived.Shelf.SlSortFuncK.PdqK
import Derived.Shelf.SlSortFuncK.WholeK
import Derived.Test.YtfnphchcgaebkaaGreatProg
import Derived.Lib.ReflectliteSwap
/- The ends of a shape. -/
namespace Go.Proofs.YtfnphchcgaebkaaGreat
open Go.RowKit
set_option linter.unusedVariables false
attribute [local go_sem ↓] Go.wp_at_zero Go.wp_at_succ

def endC (xs : List C) (c : C) : Bool := deg xs c == 1
theorem ends_eq {xs : List C} (h : isShape xs = true) : ends xs = xs.filter (endC xs) := by unfold ends; rw [h, if_pos rfl]; rfl
theorem ends_no {xs : List C} (h : isShape xs = false) : ends xs = [] := by unfold ends; rw [h]; rfl
theorem ends_len (xs : List C) : (ends xs).length ≤ 1048576 := by
  unfold ends
  split
  · next h => have := List.length_filter_le (fun c => deg xs c == 1) xs; have := shape_len h; omega
  · simp
set_option maxHeartbeats 800000 in
theorem EndsOf_i (A : Option Addr) (n c : Nat) (xs : List C) (w : World) (hr : Rd w A (vC xs)) (hl : xs.length = n) (hn : n ≤ 1099511627776) :
    Calls Tryz.prog 14 #[.slice A n c] w (RetS w 40 2 (vC (ends xs))) := by
  have HL := Lib.hid hl
  cases hs : isShape xs with
  | false =>
    have HV := Lib.hid (ends_no hs)
    have HS := Lib.hid hs
    clear hs hl
    go_enter Tryz.func14, Tryz.ntmps14
    go_wp2_with (go_at_call 32; refine (IsShape_i _ _ _ xs _ hr HL.out (by omega)).mono ?_; rw [HS.out]; rintro e w1 ⟨rfl, hb1⟩)
    go_ret
    exact ⟨none, 0, 0, rfl, by rw [HV.out]; exact own_nil _ _ _ _, (by (repeat (first | with_reducible exact Below.refl _ _ | with_reducible assumption | with_reducible apply bel_alloc | with_reducible apply bel_drew | with_reducible apply bel_drewN | ((with_reducible refine bel_set ?_ ?_); rotate_left; (simp <;> omega)) | (with_reducible refine bel_trans ?_ (by with_reducible assumption)))))⟩
  | true =>
    have HV := Lib.hid (ends_eq hs)
    have hsm := shape_small hs
    have hlen := shape_len hs
    have hn8 : n ≤ 8 := by omega
    have HSM := Lib.hid hsm
    have HS := Lib.hid hs
    clear hs hl hsm hlen
    go_enter Tryz.func14, Tryz.ntmps14
    go_wp2_with (go_at_call 32; refine (IsShape_i _ _ _ xs _ hr HL.out (by omega)).mono ?_; rw [HS.out]; rintro e w1 ⟨rfl, hb1⟩)
    go_loopw [11, 3] (fun i e wr => ∃ (k m cap : Nat) (B : Option Addr), k ≤ n ∧ m ≤ k ∧ i = .int .i64 k ∧ e = .slice B m cap ∧ wr.ownsRow w.heap.size 40 2 (.slice B m cap) m (vC ((xs.take k).filter (endC xs))) ∧ Below w.heap.size w wr) (fun i _ _ => n - (intOf i).toNat)
    case atStart => exact ⟨0, 0, 0, none, Nat.zero_le _, Nat.le_refl _, rfl, rfl, own_nil _ _ _ _, (by (repeat (first | with_reducible exact Below.refl _ _ | with_reducible assumption | with_reducible apply bel_alloc | with_reducible apply bel_drew | with_reducible apply bel_drewN | ((with_reducible refine bel_set ?_ ?_); rotate_left; (simp <;> omega)) | (with_reducible refine bel_trans ?_ (by with_reducible assumption)))))⟩
    case round =>
      clear hb1
      obtain ⟨k, m, cap, B, hk, hmk, rfl, rfl, hown, hb⟩ := hrel
      by_cases hlt : k < n
      · have hkx : k < xs.length := by rw [HL.out]; omega
        have hrw := hr.below hb
        obtain ⟨g, off, rfl, hgw, c1, c2⟩ := RdC.at_ hrw hkx
        have hft := filter_take (endC xs) xs k hkx
        have hdq := degI_eq HSM.out (HSM.out _ (List.getElem_mem hkx))
        have hec : endC xs xs[k] = (deg xs xs[k] == 1) := rfl
        obtain ⟨⟨x, y⟩, hx⟩ : ∃ p, xs[k] = p := ⟨_, rfl⟩
        rw [hx] at c1 c2 hft hdq hec
        obtain ⟨q, hq⟩ : ∃ q, deg xs (x, y) = q := ⟨_, rfl⟩
        rw [hq] at hdq hec
        rw [hec] at hft
        have HQ := Lib.hid hdq
        have HO := Lib.hid hown
        have hbs := hb.size
        clear hx hq hdq hec hown
        by_cases h1 : q = 1
        · have e1 : ((q : Int) == 1) = true := by simp; omega
          rw [show (q == 1) = true from by simp [h1], if_pos rfl] at hft
          have HF := Lib.hid hft
          clear hft h1
          go_wp2_with fail
          refine (degree_i _ _ _ xs _ _ _ (hrw.alloc _) HL.out (by omega)).mono ?_
          rw [HQ.out]
          rintro e w1 ⟨rfl, hb1⟩
          have hz := hb1.size
          have z1 : w1.cell? ⟨wr.heap.size, 0, none⟩ = some (.int .i64 x) := by simpa using ((Blk.new wr 40 #[.int .i64 x, .int .i64 y]).below hb1).cell 0
          have z2 : w1.cell? ⟨wr.heap.size, 1, none⟩ = some (.int .i64 y) := by simpa using ((Blk.new wr 40 #[.int .i64 x, .int .i64 y]).below hb1).cell 1
          have hbw : Below w.heap.size w w1 := (by (repeat (first | with_reducible exact Below.refl _ _ | with_reducible assumption | with_reducible apply bel_alloc | with_reducible apply bel_drew | with_reducible apply bel_drewN | ((with_reducible refine bel_set ?_ ?_); rotate_left; (simp <;> omega)) | (with_reducible refine bel_trans ?_ (by with_reducible assumption)))))
          have HO2 := Lib.hid (own_keep (HO.out.alloc (.cells #[.int .i64 x, .int .i64 y] 40)) hb1)
          have hbwz := hbw.size
          go_wp2_with (at_builtin; go_must (refine app_C _ rfl _ _ rfl w.heap.size _ _ _ _ rfl (HO2.out.alloc _) _ _ _ [(x, y)] rfl (rd_newC _ _ _ _) rfl (by omega) (by simp; omega) ?_); intro A' c' w' hown' hg' hat'; have HO3 := Lib.hid hown'; have HBG := Lib.hid (bel_app (bel_alloc hbw _) hg' (fun g' hg1 => ((own_lt HO2.out) g' hg1).1)); clear hown' hg' hat')
          exact ⟨⟨k + 1, m + 1, c', A', by omega, by omega, by go_num, rfl, by rw [HF.out]; exact HO3.out, HBG.out⟩, by simp [intOf]; omega⟩
        · have e1 : ((q : Int) == 1) = false := by simp; omega
          rw [show (q == 1) = false from by simp [h1], if_neg (by simp), List.append_nil] at hft
          have HF := Lib.hid hft
          clear hft h1
          go_wp2_with (go_at_call 28; refine (degree_i _ _ _ xs _ _ _ (hrw.alloc _) HL.out (by omega)).mono ?_; rw [HQ.out]; rintro e w1 ⟨rfl, hb1⟩; have HO2 := Lib.hid (own_keep (HO.out.alloc _) hb1))
          exact ⟨⟨k + 1, m, cap, B, by omega, by omega, by go_num, rfl, by rw [HF.out]; exact HO2.out, (by (repeat (first | with_reducible exact Below.refl _ _ | with_reducible assumption | with_reducible apply bel_alloc | with_reducible apply bel_drew | with_reducible apply bel_drewN | ((with_reducible refine bel_set ?_ ?_); rotate_left; (simp <;> omega)) | (with_reducible refine bel_trans ?_ (by with_reducible assumption)))))⟩, by simp [intOf]; omega⟩
      · have hkk : k = n := by omega
        subst hkk
        rw [List.take_of_length_le (by rw [HL.out]; omega), ← HV.out] at hown
        have HO := Lib.hid hown
        clear hown
        go_wp2
        go_ret
        exact ⟨_, _, _, rfl, HO.out, (by (repeat (first | with_reducible exact Below.refl _ _ | with_reducible assumption | with_reducible apply bel_alloc | with_reducible apply bel_drew | with_reducible apply bel_drewN | ((with_reducible refine bel_set ?_ ?_); rotate_left; (simp <;> omega)) | (with_reducible refine bel_trans ?_ (by with_reducible assumption)))))⟩
set_option maxHeartbeats 800000 in
theorem EndsOf_s (A : Option Addr) (n c : Nat) (xs : List C) (w : World) (hr : Rd w A (vC xs)) (hl : xs.length = n) (hn : n ≤ 1099511627776) :
    Calls Tryz.prog 23 #[.slice A n c] w (RetS w 40 2 (vC (ends xs))) := by
  have HL := Lib.hid hl
  cases hs : isShape xs with
  | false =>
    have HV := Lib.hid (ends_no hs)
    have HS := Lib.hid hs
    have ho := own_new w 40 2 0 #[] rfl (by simp [maxLen]) (base := w.heap.size) (Nat.le_refl _)
    have HO := Lib.hid ho
    clear hs hl ho
    go_enter Tryz.func23, Tryz.ntmps23
    go_wp2
    go_loopw [4, 3] (fun i e wr => i = .int .i64 0 ∧ e = .slice (some ⟨w.heap.size, 0, none⟩) 0 0 ∧ wr.ownsRow w.heap.size 40 2 (.slice (some ⟨w.heap.size, 0, none⟩) 0 0) 0 [] ∧ Below w.heap.size w wr) (fun i _ _ => 0)
    case atStart => exact ⟨rfl, rfl, HO.out, (by (repeat (first | with_reducible exact Below.refl _ _ | with_reducible assumption | with_reducible apply bel_alloc | with_reducible apply bel_drew | with_reducible apply bel_drewN | ((with_reducible refine bel_set ?_ ?_); rotate_left; (simp <;> omega)) | (with_reducible refine bel_trans ?_ (by with_reducible assumption)))))⟩
    case round =>
      clear HO
      obtain ⟨rfl, rfl, hown, hb⟩ := hrel
      have HO := Lib.hid hown
      clear hown
      by_cases h0 : 0 < n
      · have h0i : (0 : Int) < (n : Int) := by omega
        go_wp2_with (go_at_call 36; refine (IsShape_s _ _ _ xs _ (hr.below hb) HL.out (by omega)).mono ?_; rw [HS.out]; rintro e w1 ⟨rfl, hb1⟩)
        go_ret
        exact ⟨_, _, _, rfl, by rw [HV.out]; exact own_keep HO.out hb1, (by (repeat (first | with_reducible exact Below.refl _ _ | with_reducible assumption | with_reducible apply bel_alloc | with_reducible apply bel_drew | with_reducible apply bel_drewN | ((with_reducible refine bel_set ?_ ?_); rotate_left; (simp <;> omega)) | (with_reducible refine bel_trans ?_ (by with_reducible assumption)))))⟩
      · have h0i : ¬ (0 : Int) < (n : Int) := by omega
        have h0d : decide ((0 : Int) < (n : Int)) = false := by simp; omega
        go_wp2
        go_ret
        exact ⟨_, _, _, rfl, by rw [HV.out]; exact HO.out, (by (repeat (first | with_reducible exact Below.refl _ _ | with_reducible assumption | with_reducible apply bel_alloc | with_reducible apply bel_drew | with_reducible apply bel_drewN | ((with_reducible refine bel_set ?_ ?_); rotate_left; (simp <;> omega)) | (with_reducible refine bel_trans ?_ (by with_reducible assumption)))))⟩
  | true =>
    have HV := Lib.hid (ends_eq hs)
    have hsm := shape_small hs
    have hlen := shape_len hs
    have hn8 : n ≤ 8 := by omega
    have HSM := Lib.hid hsm
    have HS := Lib.hid hs
    have ho := own_new w 40 2 0 #[] rfl (by simp [maxLen]) (base := w.heap.size) (Nat.le_refl _)
    have HO := Lib.hid ho
    clear hs hl hsm hlen ho
    go_enter Tryz.func23, Tryz.ntmps23
    go_wp2
    go_loopw [4, 3] (fun i e wr => ∃ (k m cap : Nat) (B : Option Addr), k ≤ n ∧ m ≤ k ∧ i = .int .i64 k ∧ e = .slice B m cap ∧ wr.ownsRow w.heap.size 40 2 (.slice B m cap) m (vC ((xs.take k).filter (endC xs))) ∧ Below w.heap.size w wr) (fun i _ _ => n - (intOf i).toNat)
    case atStart => exact ⟨0, 0, 0, _, Nat.zero_le _, Nat.le_refl _, rfl, rfl, HO.out, (by (repeat (first | with_reducible exact Below.refl _ _ | with_reducible assumption | with_reducible apply bel_alloc | with_reducible apply bel_drew | with_reducible apply bel_drewN | ((with_reducible refine bel_set ?_ ?_); rotate_left; (simp <;> omega)) | (with_reducible refine bel_trans ?_ (by with_reducible assumption)))))⟩
    case round =>
      clear HO
      obtain ⟨k, m, cap, B, hk, hmk, rfl, rfl, hown, hb⟩ := hrel
      by_cases hlt : k < n
      · have hkx : k < xs.length := by rw [HL.out]; omega
        have hrw := hr.below hb
        obtain ⟨g, off, rfl, hgw, c1, c2⟩ := RdC.at_ hrw hkx
        have hft := filter_take (endC xs) xs k hkx
        have hdq := degS_eq HSM.out (HSM.out _ (List.getElem_mem hkx))
        have hec : endC xs xs[k] = (deg xs xs[k] == 1) := rfl
        obtain ⟨⟨x, y⟩, hx⟩ : ∃ p, xs[k] = p := ⟨_, rfl⟩
        rw [hx] at c1 c2 hft hdq hec
        obtain ⟨q, hq⟩ : ∃ q, deg xs (x, y) = q := ⟨_, rfl⟩
        rw [hq] at hdq hec
        rw [hec] at hft
        have HQ := Lib.hid hdq
        have HO := Lib.hid hown
        have hbs := hb.size
        have hi0 : (0 : Int) ≤ (k : Int) := by omega
        have hi1 : (k : Int) < (n : Int) := by omega
        clear hx hq hdq hec hown
        by_cases h1 : q = 1
        · have e1 : ((q : Int) == 1) = true := by simp; omega
          rw [show (q == 1) = true from by simp [h1], if_pos rfl] at hft
          have HF := Lib.hid hft
          clear hft h1
          go_wp2_with (first | (go_at_call 36; refine (IsShape_s _ _ _ xs _ hrw HL.out (by omega)).mono ?_; rw [HS.out]; rintro e w0 ⟨rfl, hb0⟩; have y1 := keep_below hb0 c1; have y2 := keep_below hb0 c2) | (go_at_call 46; refine (l26Degree_s _ _ _ xs _ _ _ (hrw.below hb0) HL.out (by omega)).mono ?_; rw [HQ.out]; rintro e w1 ⟨rfl, hb1⟩; have z1 := keep_below hb1 y1; have z2 := keep_below hb1 y2; have hbw : Below w.heap.size w w1 := (by (repeat (first | with_reducible exact Below.refl _ _ | with_reducible assumption | with_reducible apply bel_alloc | with_reducible apply bel_drew | with_reducible apply bel_drewN | ((with_reducible refine bel_set ?_ ?_); rotate_left; (simp <;> omega)) | (with_reducible refine bel_trans ?_ (by with_reducible assumption))))); have HO2 := Lib.hid (own_keep (own_keep HO.out hb0) hb1); have hbwz := hbw.size) | (at_builtin; go_must (refine app_C _ rfl _ _ rfl w.heap.size _ _ _ _ rfl (HO2.out.alloc _) _ _ _ [(x, y)] rfl (rd_newC _ _ _ _) rfl (by omega) (by simp; omega) ?_); intro A' c' w' hown' hg' hat'; have HO3 := Lib.hid hown'; have HBG := Lib.hid (bel_app (bel_alloc hbw _) hg' (fun g' hg1 => ((own_lt HO2.out) g' hg1).1)); clear hown' hg' hat'))
          exact ⟨⟨k + 1, m + 1, c', A', by omega, by omega, by go_num, rfl, by rw [HF.out]; exact HO3.out, HBG.out⟩, by simp [intOf]; omega⟩
        · have e1 : ((q : Int) == 1) = false := by simp; omega
          rw [show (q == 1) = false from by simp [h1], if_neg (by simp), List.append_nil] at hft
          have HF := Lib.hid hft
          clear hft h1
          go_wp2_with (first | (go_at_call 36; refine (IsShape_s _ _ _ xs _ hrw HL.out (by omega)).mono ?_; rw [HS.out]; rintro e w0 ⟨rfl, hb0⟩; have y1 := keep_below hb0 c1; have y2 := keep_below hb0 c2) | (go_at_call 46; refine (l26Degree_s _ _ _ xs _ _ _ (hrw.below hb0) HL.out (by omega)).mono ?_; rw [HQ.out]; rintro e w1 ⟨rfl, hb1⟩; have HO2 := Lib.hid (own_keep (own_keep HO.out hb0) hb1)))
          exact ⟨⟨k + 1, m, cap, B, by omega, by omega, by go_num, rfl, by rw [HF.out]; exact HO2.out, (by (repeat (first | with_reducible exact Below.refl _ _ | with_reducible assumption | with_reducible apply bel_alloc | with_reducible apply bel_drew | with_reducible apply bel_drewN | ((with_reducible refine bel_set ?_ ?_); rotate_left; (simp <;> omega)) | (with_reducible refine bel_trans ?_ (by with_reducible assumption)))))⟩, by simp [intOf]; omega⟩
      · have hkk : k = n := by omega
        subst hkk
        rw [List.take_of_length_le (by rw [HL.out]; omega), ← HV.out] at hown
        have HO := Lib.hid hown
        clear hown
        go_wp2
        go_ret
        exact ⟨_, _, _, rfl, HO.out, (by (repeat (first | with_reducible exact Below.refl _ _ | with_reducible assumption | with_reducible apply bel_alloc | with_reducible apply bel_drew | with_reducible apply bel_drewN | ((with_reducible refine bel_set ?_ ?_); rotate_left; (simp <;> omega)) | (with_reducible refine bel_trans ?_ (by with_reducible assumption)))))⟩
end Go.Proofs.YtfnphchcgaebkaaGreat

/- The order of growth of a connected shape: plain. No program is in sight. -/
namespace Go.Proofs.YtfnphchcgaebkaaGreat
open Go.RowKit
set_option linter.unusedVariables false
def lenV (v : Value) : Nat := match v with
  | .slice _ n _ => n
  | _ => 0
noncomputable def growSteps (xs : List C) : List C := if isConn xs then grownBy xs (xs.length - 1) else []
theorem find_at {α : Type} {p : α → Bool} {xs : List α} {j : Nat} (hj : j < xs.length) (h : ∀ c ∈ xs.take j, p c = false) (h1 : p xs[j] = true) : xs.find? p = some xs[j] := by
  have e : xs = xs.take j ++ xs[j] :: xs.drop (j + 1) := by rw [← List.drop_eq_getElem_cons hj, List.take_append_drop]
  have h2 : (xs.take j).find? p = none := by rw [List.find?_eq_none]; intro c hc; rw [h c hc]; simp
  conv => lhs; rw [e]
  rw [List.find?_append, h2, List.find?_cons, h1]; rfl
theorem takeP_all {xs : List C} {k : Nat} {P : C → Prop} (hk : k < xs.length) (h : ∀ c ∈ xs.take k, P c) (h1 : P xs[k]) : ∀ c ∈ xs.take (k + 1), P c := by
  intro c hc
  rw [List.take_succ_eq_append_getElem hk, List.mem_append, List.mem_singleton] at hc
  rcases hc with hc | hc
  · exact h c hc
  · rw [hc]; exact h1
theorem grownBy_next {xs : List C} {k j : Nat} (hj : j < xs.length) (h : ∀ c ∈ xs.take j, nextTo (grownBy xs k) c = false) (h1 : nextTo (grownBy xs k) xs[j] = true) : grownBy xs (k + 1) = grownBy xs k ++ [xs[j]] := by
  simp only [grownBy, find_at hj h h1]; rfl
theorem grownBy_none {xs : List C} {k : Nat} (hc : isConn xs = true) (hk : k + 1 < xs.length) (h : ∀ c ∈ xs, nextTo (grownBy xs k) c = false) : False := by
  have hcn : conn xs = true := by simp only [isConn, Bool.and_eq_true] at hc; exact hc.2
  have hnd := shape_nodup (conn_shape hc)
  obtain ⟨c, hf⟩ := next_some hcn hnd (grownBy_s0 xs k) (by rw [grownBy_len hcn hnd k (by omega)]; omega)
  have := List.find?_some hf
  rw [h c (List.mem_of_find?_eq_some hf)] at this
  cases this
theorem growSteps_len (xs : List C) : (growSteps xs).length ≤ 1048576 := by
  unfold growSteps
  split
  · next h =>
    have hs := conn_shape h
    have := shape_len hs
    have hcn : conn xs = true := by simp only [isConn, Bool.and_eq_true] at h; exact h.2
    rw [grownBy_len hcn (shape_nodup hs) _ (by omega)]; omega
  · simp
end Go.Proofs.YtfnphchcgaebkaaGreat

/- A region that draws its order, whose operations read and whose callees may make memory of their own: one walk of the lexical order, in every world that is as the first one below its heap's end. -/
namespace Go.Proofs.YtfnphchcgaebkaaGreat
open Go.RowKit
section
variable {P : Program} {C : World → Prop} {K : Act → Prop} {a : Act} {o : Oper}
theorem wp_region_below {id : Nat} {Q : Exit → Act → World → Prop} {w : World} {l : List Oper} (hm : P.follows .mixedOrders = true) (hB : Region.lexB .any l.toArray = true)
    (h : wpQuiet P l.toArray (fun w' => Below w.heap.size w w') (fun a' => ∀ w', Below w.heap.size w w' → Q .normal a' w') l a) : (Code.region id l.toArray true).wp P Q a w :=
  wp_region_quiet (C := fun w' => Below w.heap.size w w') hm hB ⟨rfl, rfl, rfl, Nat.le_refl _, fun _ _ => rfl⟩ (by simpa using h)
theorem quietV {ops : Array Oper} {Q : Act → Prop} {rest : List Oper} {ts : Array Value} {ds : List Deferred} {v : Value} {d : Nat} (hw : Region.wanted o (yielded ops ts) = true) (hd : o.dst = some d) (h1 : ∀ w', C w' → o.quietAt P { tmps := ts, defers := ds } C w' v)
    (h2 : wpQuiet P ops C Q rest { tmps := ts.setIfInBounds d v, defers := ds }) : wpQuiet P ops C Q (o :: rest) { tmps := ts, defers := ds } :=
  wpQuiet_step fun K hK => by rw [if_pos hw]; exact ⟨v, h1, by rw [hd]; exact hK _ h2⟩
theorem quietB {v : Value} (h1 : ∀ w', C w' → o.quietAt P a C w' v) (h2 : K (a.put o.dst v)) : o.quiet P a C K := ⟨v, h1, h2⟩
theorem callsB {f : FuncId} {args : Array Value} {w w' : World} {v : Value} (h : Calls P f args w' (Ret w' v)) (hb : Below w.heap.size w w') :
    Calls P f args w' (fun e w'' => e = .returned v ∧ Below w.heap.size w w'') := h.mono fun _ _ ⟨he, h2⟩ => ⟨he, bel_trans hb h2⟩
theorem callsBB {f : FuncId} {args : Array Value} {w w' : World} {b b' : Bool} (h : Calls P f args w' (Ret w' (.bool b))) (e : b = b') (hb : Below w.heap.size w w') :
    Calls P f args w' (fun e w'' => e = .returned (.bool b') ∧ Below w.heap.size w w'') := by subst e; exact callsB h hb
theorem callsBI {f : FuncId} {args : Array Value} {w w' : World} {b b' : Int} (h : Calls P f args w' (Ret w' (.int .i64 b))) (e : b = b') (hb : Below w.heap.size w w') :
    Calls P f args w' (fun e w'' => e = .returned (.int .i64 b') ∧ Below w.heap.size w w'') := by subst e; exact callsB h hb
end
end Go.Proofs.YtfnphchcgaebkaaGreat

/- The order of a snake. -/
namespace Go.Proofs.YtfnphchcgaebkaaGreat
open Go.RowKit
set_option linter.unusedVariables false
attribute [local go_sem ↓] Go.wp_at_zero Go.wp_at_succ

theorem copyCells_i (A : Option Addr) (n c : Nat) (xs : List C) (w : World) (hr : Rd w A (vC xs)) (hl : xs.length = n) (hn : n ≤ 1099511627776) :
    Calls Tryz.prog 33 #[.slice A n c] w (RetS w 40 2 (vC xs)) := by
  have HL := Lib.hid hl
  clear hl
  go_enter Tryz.func33, Tryz.ntmps33
  go_wp2_with (at_builtin; go_must (refine app_C _ rfl _ _ rfl w.heap.size none 0 0 [] rfl (own_nil _ _ _ _) _ _ _ xs rfl hr HL.out (by omega) (by omega) ?_); intro A' c' w' hown' hg' hat'; simp only [Nat.zero_add, List.nil_append] at hown'; have HO := Lib.hid hown'; have HB := Lib.hid (bel_app (Below.refl w.heap.size w) hg' (fun g h => by cases h)); clear hown' hg' hat')
  go_ret
  exact ⟨_, _, _, rfl, HO.out, HB.out⟩
theorem snakeOrder_no {xs : List C} (h : isSnake xs = false) : snakeOrder xs = [] := by unfold snakeOrder; rw [h]; rfl
theorem snakeOrder_one {xs : List C} (h : isSnake xs = true) (h1 : xs.length = 1) : snakeOrder xs = xs := by unfold snakeOrder; rw [h, if_pos rfl, if_pos h1]
theorem snakeOrder_more {xs : List C} (h : isSnake xs = true) (h1 : xs.length ≠ 1) : snakeOrder xs = walkBy xs (xs.length - 1) := by unfold snakeOrder; rw [h, if_pos rfl, if_neg h1]
theorem ends_first {xs : List C} (h : isSnake xs = true) (hl : 2 ≤ xs.length) : ∃ h : 0 < (ends xs).length, (ends xs)[0] = e0 xs := by
  have h1 := ends_ne h hl
  have h2 : 0 < (ends xs).length := List.length_pos_iff.2 h1
  exact ⟨h2, by unfold e0; rw [List.getD_eq_getElem?_getD, List.getElem?_eq_getElem h2]; rfl⟩
set_option maxHeartbeats 1600000 in
theorem SnakeOrder_i (A : Option Addr) (n c : Nat) (xs : List C) (w : World) (hr : Rd w A (vC xs)) (hl : xs.length = n) (hn : n ≤ 1099511627776) :
    Calls Tryz.prog 11 #[.slice A n c] w (RetS2 w 40 2 (vC (snakeOrder xs)) (.bool (isSnake xs))) := by
  have HL := Lib.hid hl
  cases hc : isSnake xs with
  | false =>
    have HV := Lib.hid (snakeOrder_no hc)
    have HC := Lib.hid hc
    clear hc hl
    go_enter Tryz.func11, Tryz.ntmps11
    go_wp2_with (go_at_call 8; refine (IsSnake_i _ _ _ xs _ hr HL.out (by omega)).mono ?_; rw [HC.out]; rintro e w1 ⟨rfl, hb1⟩)
    go_ret2
    exact ⟨none, 0, 0, rfl, by rw [HV.out]; exact own_nil _ _ _ _, (by (repeat (first | with_reducible exact Below.refl _ _ | with_reducible assumption | with_reducible apply bel_alloc | with_reducible apply bel_drew | with_reducible apply bel_drewN | ((with_reducible refine bel_set ?_ ?_); rotate_left; (simp <;> omega)) | (with_reducible refine bel_trans ?_ (by with_reducible assumption)))))⟩
  | true =>
    have hs := conn_shape (tree_conn (snake_tree hc))
    have hlen := shape_len hs
    have hn8 : n ≤ 8 := by omega
    by_cases h1 : n = 1
    · have HV := Lib.hid (snakeOrder_one hc (by omega))
      have HC := Lib.hid hc
      have e1 : ((n : Int) == 1) = true := by simp; omega
      clear hc hl hs hlen h1
      go_enter Tryz.func11, Tryz.ntmps11
      go_wp2_with fail
      refine (IsSnake_i _ _ _ xs _ hr HL.out (by omega)).mono ?_
      rw [HC.out]
      rintro e w1 ⟨rfl, hb1⟩
      go_wp2_with fail
      refine (copyCells_i _ _ _ xs _ (hr.below hb1) HL.out (by omega)).mono ?_
      rintro e w2 ⟨B, m, cap, rfl, ho, hb2⟩
      have HO := Lib.hid ho
      clear ho
      go_wp2
      go_ret2
      exact ⟨_, _, _, rfl, by rw [HV.out]; exact own_base HO.out hb1.size, (by (repeat (first | with_reducible exact Below.refl _ _ | with_reducible assumption | with_reducible apply bel_alloc | with_reducible apply bel_drew | with_reducible apply bel_drewN | ((with_reducible refine bel_set ?_ ?_); rotate_left; (simp <;> omega)) | (with_reducible refine bel_trans ?_ (by with_reducible assumption)))))⟩
    · have HV := Lib.hid (snakeOrder_more hc (by omega))
      have hn2 : 2 ≤ n := by omega
      have hsm := shape_small hs
      have HWL : Hid (∀ k, k < n → (walkBy xs k).length = k + 1) := fun k hk => (walk_way hc (by omega) k (by omega)).1
      have HWS : Hid (∀ k, k < n → ∀ d ∈ walkBy xs k, small d) := fun k hk d hd => hsm d ((walk_way hc (by omega) k (by omega)).2.sub d hd)
      have HWN : Hid (∀ k, k + 1 < n → (∀ c ∈ xs, onWay (walkBy xs k) c = false) → False) := fun k hk h => walkBy_none hc (by omega) (by omega) h
      obtain ⟨hep, hef⟩ := ends_first hc (by omega)
      have HSM := Lib.hid hsm
      have HC := Lib.hid hc
      have HEF := Lib.hid hef
      have e1 : ((n : Int) == 1) = false := by simp; omega
      rw [hl] at HV
      clear hc hs hlen hsm hl hn hef h1
      go_enter Tryz.func11, Tryz.ntmps11
      go_wp2_with fail
      refine (IsSnake_i _ _ _ xs _ hr HL.out (by omega)).mono ?_
      rw [HC.out]
      rintro e w1 ⟨rfl, hb1⟩
      go_wp2_with fail
      refine (EndsOf_i _ _ _ xs _ (hr.below hb1) HL.out (by omega)).mono ?_
      rintro e w2 ⟨E, me, ce, rfl, hoe, hb2⟩
      obtain ⟨g0, off0, rfl, hg0, z1, z2⟩ := RdC.at_ (Rd.of_own hoe) hep
      rw [HEF.out] at z1 z2
      have hme : (ends xs).length = me := by have := own_len hoe; rw [vC_length] at this; omega
      have hme0 : 0 < me := by omega
      simp only [Nat.zero_mul, Nat.add_zero] at z1 z2
      obtain ⟨⟨zx, zy⟩, hz⟩ : ∃ p, e0 xs = p := ⟨_, rfl⟩
      rw [hz] at z1 z2
      have HZ := Lib.hid hz
      have hb02 := bel_trans hb1 hb2
      have hbs := hb02.size
      clear hz hme hoe
      go_wp2_with fail
      go_loopw [4] (fun e wr => ∃ (k m cap : Nat) (B : Option Addr), k < n ∧ m = k + 1 ∧ e = .slice B m cap ∧ wr.ownsRow w.heap.size 40 2 (.slice B m cap) m (vC (walkBy xs k)) ∧ Below w.heap.size w wr) (fun e _ => n - lenV e)
      case atStart => exact ⟨0, 1, 1, _, by omega, rfl, rfl, by simp only [walkBy]; rw [HZ.out]; exact own_newC _ _ _ _ hbs, (by (repeat (first | with_reducible exact Below.refl _ _ | with_reducible assumption | with_reducible apply bel_alloc | with_reducible apply bel_drew | with_reducible apply bel_drewN | ((with_reducible refine bel_set ?_ ?_); rotate_left; (simp <;> omega)) | (with_reducible refine bel_trans ?_ (by with_reducible assumption)))))⟩
      case round =>
        clear HZ hb1 hb2 hb02 z1 z2 hg0 hbs HEF hep hme0
        obtain ⟨k, m, cap, B, hk, hmk, rfl, hown, hb⟩ := hrel
        by_cases hlt : m < n
        · have HM := Lib.hid hmk
          have hlt2 : (m : Int) < (n : Int) := by omega
          have hm1 : (m : Int) - 1 = (k : Int) := by omega
          have hk0 : (0 : Int) ≤ (k : Int) := by omega
          have hkm : (k : Int) < (m : Int) := by omega
          have hkw : k < (walkBy xs k).length := by rw [HWL.out k hk]; omega
          obtain ⟨gB, offB, rfl, hgB, l1, l2⟩ := RdC.at_ (Rd.of_own hown) hkw
          have hla : (walkBy xs k)[k] = lastC (walkBy xs k) := by unfold lastC; rw [HWL.out k hk, List.getD_eq_getElem?_getD, show k + 1 - 1 = k from rfl, List.getElem?_eq_getElem hkw]; rfl
          rw [hla] at l1 l2
          obtain ⟨⟨lx, ly⟩, hlx⟩ : ∃ p, lastC (walkBy xs k) = p := ⟨_, rfl⟩
          rw [hlx] at l1 l2
          have hls : small (lx, ly) := by rw [← hlx, ← hla]; exact HWS.out k hk _ (List.getElem_mem _)
          have HLS := Lib.hid hls
          have HLX := Lib.hid hlx
          have HO := Lib.hid hown
          clear hown hmk hlx hla hls
          go_wp2_with fail
          generalize hL : wr.heap.size = L
          have HBL : Hid (Blk (wr.alloc (.cells #[.int .i64 lx, .int .i64 ly] 40)) L 40 #[.int .i64 lx, .int .i64 ly]) := by rw [← hL]; exact Blk.new _ _ _
          go_loopw [4, 34] (fun e i wr => ∃ j : Nat, j ≤ n ∧ e = .slice (some ⟨gB, offB, none⟩) m cap ∧ i = .int .i64 j ∧ (∀ c ∈ xs.take j, onWay (walkBy xs k) c = false) ∧ wr.ownsRow w.heap.size 40 2 (.slice (some ⟨gB, offB, none⟩) m cap) m (vC (walkBy xs k)) ∧ Blk wr L 40 #[.int .i64 lx, .int .i64 ly] ∧ Below w.heap.size w wr) (fun _ i _ => n - (intOf i).toNat)
          case atStart => exact ⟨0, Nat.zero_le _, rfl, rfl, by simp, HO.out.alloc _, HBL.out, (by (repeat (first | with_reducible exact Below.refl _ _ | with_reducible assumption | with_reducible apply bel_alloc | with_reducible apply bel_drew | with_reducible apply bel_drewN | ((with_reducible refine bel_set ?_ ?_); rotate_left; (simp <;> omega)) | (with_reducible refine bel_trans ?_ (by with_reducible assumption)))))⟩
          case round =>
            clear HO hb HBL l1 l2 hgB hL
            obtain ⟨j, hj, rfl, rfl, hno, hown, hBL, hb⟩ := hrel
            have bl1 : wr.cell? ⟨L, 0, none⟩ = some (.int .i64 lx) := by simpa using hBL.cell 0
            have bl2 : wr.cell? ⟨L, 1, none⟩ = some (.int .i64 ly) := by simpa using hBL.cell 1
            have hLlt := hBL.lt
            by_cases hlj : j < n
            · have hjx : j < xs.length := by rw [HL.out]; omega
              have hrw := hr.below hb
              obtain ⟨g, off, rfl, hgw, c1, c2⟩ := RdC.at_ hrw hjx
              have hte := nearI_eq HLS.out (HSM.out _ (List.getElem_mem hjx))
              have HNX : Hid (onWay (walkBy xs k) xs[j] = true → walkBy xs (k + 1) = walkBy xs k ++ [xs[j]]) := fun h => walkBy_next hjx hno h
              have HNO : Hid (onWay (walkBy xs k) xs[j] = false → ∀ c ∈ xs.take (j + 1), onWay (walkBy xs k) c = false) := fun h => takeP_all hjx hno h
              have HDF : Hid (onWay (walkBy xs k) xs[j] = (near (lx, ly) xs[j] && !hasC (walkBy xs k) xs[j].1 xs[j].2)) := by show onWay _ _ = _; unfold onWay; rw [HLX.out]
              obtain ⟨⟨x, y⟩, hx⟩ : ∃ p, xs[j] = p := ⟨_, rfl⟩
              rw [hx] at c1 c2 hte HNX HNO HDF
              have hgl := HWL.out k hk
              have hglm : (walkBy xs k).length = m := by have := HM.out; omega
              have HG := Lib.hid hglm
              have HT := Lib.hid hte
              have HO := Lib.hid hown
              have rs := Rd.of_own hown
              have hbs := hb.size
              have hm12 : m ≤ 1099511627776 := by omega
              clear hno hown hte hx hgl hglm
              have HB2 := Lib.hid (hBL.alloc (.cells #[.int .i64 x, .int .i64 y] 40))
              cases ht : near (lx, ly) (x, y) with
              | false =>
                have HN := Lib.hid (HNO.out (by simp [HDF.out, ht]))
                rw [ht] at HT
                clear ht HNX HNO HDF
                go_wp2_with fail
                refine (beside_i _ _ _ _ _).mono ?_
                rw [HT.out]
                rintro e w1 ⟨rfl, hb1⟩
                have HO2 := Lib.hid (own_keep (HO.out.alloc (.cells #[.int .i64 x, .int .i64 y] 40)) hb1)
                go_wp2_with fail
                exact ⟨⟨j + 1, by omega, rfl, by go_num, HN.out, HO2.out, HB2.out.below hb1, (by (repeat (first | with_reducible exact Below.refl _ _ | with_reducible assumption | with_reducible apply bel_alloc | with_reducible apply bel_drew | with_reducible apply bel_drewN | ((with_reducible refine bel_set ?_ ?_); rotate_left; (simp <;> omega)) | (with_reducible refine bel_trans ?_ (by with_reducible assumption)))))⟩, by simp [intOf]; omega⟩
              | true =>
                have HTT := Lib.hid ht
                cases hh : hasC (walkBy xs k) x y with
                | true =>
                  have HH := Lib.hid hh
                  have HN := Lib.hid (HNO.out (by simp [HDF.out, ht, hh]))
                  rw [ht] at HT
                  clear ht hh HNX HNO HDF
                  go_wp2_with fail
                  refine (beside_i _ _ _ _ _).mono ?_
                  rw [HT.out]
                  rintro e w1 ⟨rfl, hb1⟩
                  have z1 : w1.cell? ⟨wr.heap.size, 0, none⟩ = some (.int .i64 x) := by simpa using ((Blk.new wr 40 #[.int .i64 x, .int .i64 y]).below hb1).cell 0
                  have z2 : w1.cell? ⟨wr.heap.size, 1, none⟩ = some (.int .i64 y) := by simpa using ((Blk.new wr 40 #[.int .i64 x, .int .i64 y]).below hb1).cell 1
                  have HO2 := Lib.hid (own_keep (HO.out.alloc (.cells #[.int .i64 x, .int .i64 y] 40)) hb1)
                  have rs2 := Rd.of_own HO2.out
                  go_wp2_with fail
                  refine (HasCell_i _ m cap (walkBy xs k) x y _ rs2 HG.out hm12).mono ?_
                  rw [HH.out]
                  rintro e w2 ⟨rfl, hb2⟩
                  have HO3 := Lib.hid (own_keep HO2.out hb2)
                  go_wp2_with fail
                  exact ⟨⟨j + 1, by omega, rfl, by go_num, HN.out, HO3.out, (HB2.out.below hb1).below hb2, (by (repeat (first | with_reducible exact Below.refl _ _ | with_reducible assumption | with_reducible apply bel_alloc | with_reducible apply bel_drew | with_reducible apply bel_drewN | ((with_reducible refine bel_set ?_ ?_); rotate_left; (simp <;> omega)) | (with_reducible refine bel_trans ?_ (by with_reducible assumption)))))⟩, by simp [intOf]; omega⟩
                | false =>
                  have HH := Lib.hid hh
                  have HN := Lib.hid (HNX.out (by simp [HDF.out, ht, hh]))
                  rw [ht] at HT
                  clear ht hh HNX HNO HDF
                  go_wp2_with fail
                  refine (beside_i _ _ _ _ _).mono ?_
                  rw [HT.out]
                  rintro e w1 ⟨rfl, hb1⟩
                  have z1 : w1.cell? ⟨wr.heap.size, 0, none⟩ = some (.int .i64 x) := by simpa using ((Blk.new wr 40 #[.int .i64 x, .int .i64 y]).below hb1).cell 0
                  have z2 : w1.cell? ⟨wr.heap.size, 1, none⟩ = some (.int .i64 y) := by simpa using ((Blk.new wr 40 #[.int .i64 x, .int .i64 y]).below hb1).cell 1
                  have HO1 := Lib.hid (own_keep (HO.out.alloc (.cells #[.int .i64 x, .int .i64 y] 40)) hb1)
                  have rs2 := Rd.of_own HO1.out
                  go_wp2_with fail
                  refine (HasCell_i _ m cap (walkBy xs k) x y _ rs2 HG.out hm12).mono ?_
                  rw [HH.out]
                  rintro e w2 ⟨rfl, hb2⟩
                  have y1 := keep_below hb2 z1
                  have y2 := keep_below hb2 z2
                  have HO2 := Lib.hid (own_keep HO1.out hb2)
                  have hbw : Below w.heap.size w w2 := (by (repeat (first | with_reducible exact Below.refl _ _ | with_reducible assumption | with_reducible apply bel_alloc | with_reducible apply bel_drew | with_reducible apply bel_drewN | ((with_reducible refine bel_set ?_ ?_); rotate_left; (simp <;> omega)) | (with_reducible refine bel_trans ?_ (by with_reducible assumption)))))
                  have hbwz := hbw.size
                  go_wp2_with (at_builtin; go_must (refine app_C _ rfl _ _ rfl w.heap.size _ _ _ _ rfl (HO2.out.alloc _) _ _ _ [(x, y)] rfl (rd_newC _ _ _ _) rfl (by omega) (by simp; omega) ?_); intro A' c' w' hown' hg' hat'; have HO3 := Lib.hid hown'; have HBG := Lib.hid (bel_app (bel_alloc hbw _) hg' (fun g' hg1 => ((own_lt HO2.out) g' hg1).1)); clear hown' hg' hat')
                  exact ⟨⟨k + 1, m + 1, c', A', by have := HM.out; omega, by rw [HM.out], rfl, by rw [HN.out]; exact HO3.out, HBG.out⟩, by simp [lenV]; omega⟩
            · exfalso
              have hjn : j = n := by omega
              rw [List.take_of_length_le (by rw [HL.out]; omega)] at hno
              exact HWN.out k (by have := HM.out; omega) hno
        · have hkn : k = n - 1 := by omega
          have hlt2 : ¬ (m : Int) < (n : Int) := by omega
          rw [hkn, ← HV.out] at hown
          have HO := Lib.hid hown
          clear hown hkn hmk
          go_wp2
          go_ret2
          exact ⟨_, _, _, rfl, HO.out, (by (repeat (first | with_reducible exact Below.refl _ _ | with_reducible assumption | with_reducible apply bel_alloc | with_reducible apply bel_drew | with_reducible apply bel_drewN | ((with_reducible refine bel_set ?_ ?_); rotate_left; (simp <;> omega)) | (with_reducible refine bel_trans ?_ (by with_reducible assumption)))))⟩
set_option maxHeartbeats 1600000 in
theorem SnakeOrder_s (A : Option Addr) (n c : Nat) (xs : List C) (w : World) (hr : Rd w A (vC xs)) (hl : xs.length = n) (hn : n ≤ 1099511627776) :
    Calls Tryz.prog 21 #[.slice A n c] w (RetS2 w 40 2 (vC (snakeOrder xs)) (.bool (isSnake xs))) := by
  have HL := Lib.hid hl
  cases hc : isSnake xs with
  | false =>
    have HV := Lib.hid (snakeOrder_no hc)
    have HC := Lib.hid hc
    clear hc hl
    go_enter Tryz.func21, Tryz.ntmps21
    go_wp2_with (go_at_call 42; refine (IsSnake_s _ _ _ xs _ hr HL.out (by omega)).mono ?_; rw [HC.out]; rintro e w1 ⟨rfl, hb1⟩)
    go_ret2
    exact ⟨_, 0, 0, rfl, by rw [HV.out]; exact own_new _ _ 2 0 #[] rfl (by simp [maxLen]) (by have := hb1.size; omega), (by (repeat (first | with_reducible exact Below.refl _ _ | with_reducible assumption | with_reducible apply bel_alloc | with_reducible apply bel_drew | with_reducible apply bel_drewN | ((with_reducible refine bel_set ?_ ?_); rotate_left; (simp <;> omega)) | (with_reducible refine bel_trans ?_ (by with_reducible assumption)))))⟩
  | true =>
    have hs := conn_shape (tree_conn (snake_tree hc))
    have hlen := shape_len hs
    have hn8 : n ≤ 8 := by omega
    by_cases h1 : n = 1
    · have HV := Lib.hid (snakeOrder_one hc (by omega))
      have HC := Lib.hid hc
      have e1 : ((n : Int) == 1) = true := by simp; omega
      clear hc hl hs hlen h1
      go_enter Tryz.func21, Tryz.ntmps21
      go_wp2_with fail
      refine (IsSnake_s _ _ _ xs _ hr HL.out (by omega)).mono ?_
      rw [HC.out]
      rintro e w1 ⟨rfl, hb1⟩
      have hbs := hb1.size
      have ho := own_new w1 40 2 0 #[] rfl (by simp [maxLen]) (base := w.heap.size) hbs
      have HO1 := Lib.hid ho
      clear ho
      go_wp2_with (at_builtin; go_must (refine app_C _ rfl _ _ rfl w.heap.size _ 0 0 [] rfl HO1.out _ _ _ xs rfl ((hr.below hb1).alloc _) HL.out (by omega) (by simp; omega) ?_); intro A' c' w' hown' hg' hat'; simp only [Nat.zero_add, List.nil_append] at hown'; have HO := Lib.hid hown'; have HB := Lib.hid (bel_app (bel_alloc hb1 _) hg' (fun g h => by simp only [ob, Option.map_some, Option.some.injEq] at h; omega)); clear hown' hg' hat')
      go_ret2
      exact ⟨_, _, _, rfl, by rw [HV.out]; exact HO.out, HB.out⟩
    · have HV := Lib.hid (snakeOrder_more hc (by omega))
      have hn2 : 2 ≤ n := by omega
      have hsm := shape_small hs
      have HWL : Hid (∀ k, k < n → (walkBy xs k).length = k + 1) := fun k hk => (walk_way hc (by omega) k (by omega)).1
      have HWS : Hid (∀ k, k < n → ∀ d ∈ walkBy xs k, small d) := fun k hk d hd => hsm d ((walk_way hc (by omega) k (by omega)).2.sub d hd)
      have HWN : Hid (∀ k, k + 1 < n → (∀ c ∈ xs, onWay (walkBy xs k) c = false) → False) := fun k hk h => walkBy_none hc (by omega) (by omega) h
      obtain ⟨hep, hef⟩ := ends_first hc (by omega)
      have HSM := Lib.hid hsm
      have HC := Lib.hid hc
      have HEF := Lib.hid hef
      have e1 : ((n : Int) == 1) = false := by simp; omega
      rw [hl] at HV
      clear hc hs hlen hsm hl hn hef h1
      go_enter Tryz.func21, Tryz.ntmps21
      go_wp2_with fail
      refine (IsSnake_s _ _ _ xs _ hr HL.out (by omega)).mono ?_
      rw [HC.out]
      rintro e w1 ⟨rfl, hb1⟩
      go_wp2_with fail
      refine (EndsOf_s _ _ _ xs _ (hr.below hb1) HL.out (by omega)).mono ?_
      rintro e w2 ⟨E, me, ce, rfl, hoe, hb2⟩
      obtain ⟨g0, off0, rfl, hg0, z1, z2⟩ := RdC.at_ (Rd.of_own hoe) hep
      rw [HEF.out] at z1 z2
      have hme : (ends xs).length = me := by have := own_len hoe; rw [vC_length] at this; omega
      have hme0 : 0 < me := by omega
      simp only [Nat.zero_mul, Nat.add_zero] at z1 z2
      obtain ⟨⟨zx, zy⟩, hz⟩ : ∃ p, e0 xs = p := ⟨_, rfl⟩
      rw [hz] at z1 z2
      have HZ := Lib.hid hz
      have hb02 := bel_trans hb1 hb2
      have hbs := hb02.size
      clear hz hme hoe
      go_wp2_with fail
      go_loopw [4] (fun e wr => ∃ (k m cap : Nat) (B : Option Addr), k < n ∧ m = k + 1 ∧ e = .slice B m cap ∧ wr.ownsRow w.heap.size 40 2 (.slice B m cap) m (vC (walkBy xs k)) ∧ Below w.heap.size w wr) (fun e _ => n - lenV e)
      case atStart => exact ⟨0, 1, 1, _, by omega, rfl, rfl, by simp only [walkBy]; rw [HZ.out]; exact own_newC _ _ _ _ hbs, (by (repeat (first | with_reducible exact Below.refl _ _ | with_reducible assumption | with_reducible apply bel_alloc | with_reducible apply bel_drew | with_reducible apply bel_drewN | ((with_reducible refine bel_set ?_ ?_); rotate_left; (simp <;> omega)) | (with_reducible refine bel_trans ?_ (by with_reducible assumption)))))⟩
      case round =>
        clear HZ hb1 hb2 hb02 z1 z2 hg0 hbs HEF hep hme0
        obtain ⟨k, m, cap, B, hk, hmk, rfl, hown, hb⟩ := hrel
        by_cases hlt : m < n
        · have HM := Lib.hid hmk
          have hlt2 : (m : Int) < (n : Int) := by omega
          have hm1 : (m : Int) - 1 = (k : Int) := by omega
          have hk0 : (0 : Int) ≤ (k : Int) := by omega
          have hkm : (k : Int) < (m : Int) := by omega
          have hkw : k < (walkBy xs k).length := by rw [HWL.out k hk]; omega
          obtain ⟨gB, offB, rfl, hgB, l1, l2⟩ := RdC.at_ (Rd.of_own hown) hkw
          have hla : (walkBy xs k)[k] = lastC (walkBy xs k) := by unfold lastC; rw [HWL.out k hk, List.getD_eq_getElem?_getD, show k + 1 - 1 = k from rfl, List.getElem?_eq_getElem hkw]; rfl
          rw [hla] at l1 l2
          obtain ⟨⟨lx, ly⟩, hlx⟩ : ∃ p, lastC (walkBy xs k) = p := ⟨_, rfl⟩
          rw [hlx] at l1 l2
          have hls : small (lx, ly) := by rw [← hlx, ← hla]; exact HWS.out k hk _ (List.getElem_mem _)
          have HLS := Lib.hid hls
          have HLX := Lib.hid hlx
          have HO := Lib.hid hown
          clear hown hmk hlx hla hls
          go_wp2_with fail
          generalize hL : wr.heap.size = L
          have HBL : Hid (Blk (wr.alloc (.cells #[.int .i64 lx, .int .i64 ly] 40)) L 40 #[.int .i64 lx, .int .i64 ly]) := by rw [← hL]; exact Blk.new _ _ _
          go_loopw [4, 6] (fun e i wr => ∃ j : Nat, j ≤ n ∧ e = .slice (some ⟨gB, offB, none⟩) m cap ∧ i = .int .i64 j ∧ (∀ c ∈ xs.take j, onWay (walkBy xs k) c = false) ∧ wr.ownsRow w.heap.size 40 2 (.slice (some ⟨gB, offB, none⟩) m cap) m (vC (walkBy xs k)) ∧ Blk wr L 40 #[.int .i64 lx, .int .i64 ly] ∧ Below w.heap.size w wr) (fun _ i _ => n - (intOf i).toNat)
          case atStart => exact ⟨0, Nat.zero_le _, rfl, rfl, by simp, HO.out.alloc _, HBL.out, (by (repeat (first | with_reducible exact Below.refl _ _ | with_reducible assumption | with_reducible apply bel_alloc | with_reducible apply bel_drew | with_reducible apply bel_drewN | ((with_reducible refine bel_set ?_ ?_); rotate_left; (simp <;> omega)) | (with_reducible refine bel_trans ?_ (by with_reducible assumption)))))⟩
          case round =>
            clear HO hb HBL l1 l2 hgB hL
            obtain ⟨j, hj, rfl, rfl, hno, hown, hBL, hb⟩ := hrel
            have bl1 : wr.cell? ⟨L, 0, none⟩ = some (.int .i64 lx) := by simpa using hBL.cell 0
            have bl2 : wr.cell? ⟨L, 1, none⟩ = some (.int .i64 ly) := by simpa using hBL.cell 1
            have hLlt := hBL.lt
            by_cases hlj : j < n
            · have hjx : j < xs.length := by rw [HL.out]; omega
              have hrw := hr.below hb
              obtain ⟨g, off, rfl, hgw, c1, c2⟩ := RdC.at_ hrw hjx
              have hte := nearS_eq (HSM.out _ (List.getElem_mem hjx)) HLS.out
              have HNX : Hid (onWay (walkBy xs k) xs[j] = true → walkBy xs (k + 1) = walkBy xs k ++ [xs[j]]) := fun h => walkBy_next hjx hno h
              have HNO : Hid (onWay (walkBy xs k) xs[j] = false → ∀ c ∈ xs.take (j + 1), onWay (walkBy xs k) c = false) := fun h => takeP_all hjx hno h
              have HDF : Hid (onWay (walkBy xs k) xs[j] = (near (lx, ly) xs[j] && !hasC (walkBy xs k) xs[j].1 xs[j].2)) := by show onWay _ _ = _; unfold onWay; rw [HLX.out]
              obtain ⟨⟨x, y⟩, hx⟩ : ∃ p, xs[j] = p := ⟨_, rfl⟩
              rw [hx, near_symm] at hte
              rw [hx] at c1 c2 HNX HNO HDF
              have hgl := HWL.out k hk
              have hglm : (walkBy xs k).length = m := by have := HM.out; omega
              have HG := Lib.hid hglm
              have HT := Lib.hid hte
              have HO := Lib.hid hown
              have rs := Rd.of_own hown
              have hbs := hb.size
              have hm12 : m ≤ 1099511627776 := by omega
              clear hno hown hte hx hgl hglm
              have hi0 : (0 : Int) ≤ (j : Int) := by omega
              have hi1 : (j : Int) < (n : Int) := by omega
              cases ht : near (lx, ly) (x, y) with
              | false =>
                have HN := Lib.hid (HNO.out (by simp [HDF.out, ht]))
                rw [ht] at HT
                clear ht HNX HNO HDF
                go_wp2_with fail
                (refine wp_region_below (by kernel_rfl) (by kernel_rfl) ?_; (repeat (first | go_big_quiet_skip | (refine quietV (v := ?_) (by rfl) rfl (fun w' hbw => ?_) ?_; rotate_left; ((try dsimp only at hbw); have hbc := (bcell hbw).1; have hbf := (bcell hbw).2; go_simp; first | done | with_reducible rfl | (go_at_call 43; exact callsBB (l2Near_s _ _ _ _ _) HT.out hbw)); simp only [List.setIfInBounds_toArray, List.set_cons_zero, List.set_cons_succ]))); refine wpQuiet_nil ?_; intro w1 hb1)
                have HO2 := Lib.hid (own_keep HO.out hb1)
                go_wp2_with fail
                exact ⟨⟨j + 1, by omega, rfl, by go_num, HN.out, HO2.out, hBL.below hb1, (by (repeat (first | with_reducible exact Below.refl _ _ | with_reducible assumption | with_reducible apply bel_alloc | with_reducible apply bel_drew | with_reducible apply bel_drewN | ((with_reducible refine bel_set ?_ ?_); rotate_left; (simp <;> omega)) | (with_reducible refine bel_trans ?_ (by with_reducible assumption)))))⟩, by simp [intOf]; omega⟩
              | true =>
                cases hh : hasC (walkBy xs k) x y with
                | true =>
                  have HH := Lib.hid hh
                  have HN := Lib.hid (HNO.out (by simp [HDF.out, ht, hh]))
                  rw [ht] at HT
                  clear ht hh HNX HNO HDF
                  go_wp2_with fail
                  (refine wp_region_below (by kernel_rfl) (by kernel_rfl) ?_; (repeat (first | go_big_quiet_skip | (refine quietV (v := ?_) (by rfl) rfl (fun w' hbw => ?_) ?_; rotate_left; ((try dsimp only at hbw); have hbc := (bcell hbw).1; have hbf := (bcell hbw).2; go_simp; first | done | with_reducible rfl | (first | (go_at_call 43; exact callsBB (l2Near_s _ _ _ _ _) HT.out hbw) | (go_at_call 44; exact callsBB (HasCell_s _ _ _ _ _ _ _ (rs.below hbw) HG.out hm12) HH.out hbw))); simp only [List.setIfInBounds_toArray, List.set_cons_zero, List.set_cons_succ]))); refine wpQuiet_nil ?_; intro w1 hb1)
                  have HO2 := Lib.hid (own_keep HO.out hb1)
                  go_wp2_with fail
                  exact ⟨⟨j + 1, by omega, rfl, by go_num, HN.out, HO2.out, hBL.below hb1, (by (repeat (first | with_reducible exact Below.refl _ _ | with_reducible assumption | with_reducible apply bel_alloc | with_reducible apply bel_drew | with_reducible apply bel_drewN | ((with_reducible refine bel_set ?_ ?_); rotate_left; (simp <;> omega)) | (with_reducible refine bel_trans ?_ (by with_reducible assumption)))))⟩, by simp [intOf]; omega⟩
                | false =>
                  have HH := Lib.hid hh
                  have HN := Lib.hid (HNX.out (by simp [HDF.out, ht, hh]))
                  rw [ht] at HT
                  clear ht hh HNX HNO HDF
                  go_wp2_with fail
                  (refine wp_region_below (by kernel_rfl) (by kernel_rfl) ?_; (repeat (first | go_big_quiet_skip | (refine quietV (v := ?_) (by rfl) rfl (fun w' hbw => ?_) ?_; rotate_left; ((try dsimp only at hbw); have hbc := (bcell hbw).1; have hbf := (bcell hbw).2; go_simp; first | done | with_reducible rfl | (first | (go_at_call 43; exact callsBB (l2Near_s _ _ _ _ _) HT.out hbw) | (go_at_call 44; exact callsBB (HasCell_s _ _ _ _ _ _ _ (rs.below hbw) HG.out hm12) HH.out hbw))); simp only [List.setIfInBounds_toArray, List.set_cons_zero, List.set_cons_succ]))); refine wpQuiet_nil ?_; intro w2 hb2)
                  have y1 := keep_below hb2 c1
                  have y2 := keep_below hb2 c2
                  have HO2 := Lib.hid (own_keep HO.out hb2)
                  have hbw : Below w.heap.size w w2 := (by (repeat (first | with_reducible exact Below.refl _ _ | with_reducible assumption | with_reducible apply bel_alloc | with_reducible apply bel_drew | with_reducible apply bel_drewN | ((with_reducible refine bel_set ?_ ?_); rotate_left; (simp <;> omega)) | (with_reducible refine bel_trans ?_ (by with_reducible assumption)))))
                  have hbwz := hbw.size
                  go_wp2_with (at_builtin; go_must (refine app_C _ rfl _ _ rfl w.heap.size _ _ _ _ rfl (HO2.out.alloc _) _ _ _ [(x, y)] rfl (rd_newC _ _ _ _) rfl (by omega) (by simp; omega) ?_); intro A' c' w' hown' hg' hat'; have HO3 := Lib.hid hown'; have HBG := Lib.hid (bel_app (bel_alloc hbw _) hg' (fun g' hg1 => ((own_lt HO2.out) g' hg1).1)); clear hown' hg' hat')
                  exact ⟨⟨k + 1, m + 1, c', A', by have := HM.out; omega, by rw [HM.out], rfl, by rw [HN.out]; exact HO3.out, HBG.out⟩, by simp [lenV]; omega⟩
            · exfalso
              have hjn : j = n := by omega
              rw [List.take_of_length_le (by rw [HL.out]; omega)] at hno
              exact HWN.out k (by have := HM.out; omega) hno
        · have hkn : k = n - 1 := by omega
          have hlt2 : ¬ (m : Int) < (n : Int) := by omega
          rw [hkn, ← HV.out] at hown
          have HO := Lib.hid hown
          clear hown hkn hmk
          go_wp2
          go_ret2
          exact ⟨_, _, _, rfl, HO.out, (by (repeat (first | with_reducible exact Below.refl _ _ | with_reducible assumption | with_reducible apply bel_alloc | with_reducible apply bel_drew | with_reducible apply bel_drewN | ((with_reducible refine bel_set ?_ ?_); rotate_left; (simp <;> omega)) | (with_reducible refine bel_trans ?_ (by with_reducible assumption)))))⟩
end Go.Proofs.YtfnphchcgaebkaaGreat

/- A region that draws its order: operations that read and quiet calls, and a chain of operations that make or write memory. The quiet ones may be taken first. -/
namespace Go.Proofs.YtfnphchcgaebkaaGreat
open Go.RowKit
/-- w' is w with more memory. -/
abbrev Ext (w w' : World) : Prop := Below w.heap.size w w'
section
variable {P : Program} {ops : Array Oper} {md : Region.Mode} {C : World → Prop} {Q : Exit → Act → World → Prop}
/-- In every world of the class o yields v and leaves that world, with more memory at most. -/
def Qt (P : Program) (ops : Array Oper) (C : World → Prop) (o : Oper) (v : Value) (a : Act) : Prop :=
  (Region.wanted o (yielded ops a.tmps) = true ∧ ∀ w, C w → o.quietAt P a (Ext w) w v) ∨ (Region.wanted o (yielded ops a.tmps) = false ∧ v = undef)
theorem Qt.same {o : Oper} {v : Value} {a a' : Act} (hy : Qt P ops C o v a) (he : execOp a'.eval o = execOp a.eval o)
    (hw : Region.wanted o (yielded ops a'.tmps) = Region.wanted o (yielded ops a.tmps)) : Qt P ops C o v a' := by
  unfold Qt Oper.quietAt at *
  rw [he, hw]
  exact hy
theorem Qt.wpOp {i : Nat} {o : Oper} {v : Value} {a : Act} {w : World} (hi : ops[i]? = some o) (hC : C w) (hy : Qt P ops C o v a) {K : Act → World → Prop} (h : ∀ w', Ext w w' → K (a.put o.dst v) w') : wpOp P ops Q i K a w := by
  unfold Go.wpOp
  simp only [hi]
  rcases hy with ⟨hw, hv⟩ | ⟨hw, rfl⟩
  · rw [if_pos hw]
    refine .inl ?_
    have h3 := hv w hC
    unfold Oper.quietAt at h3
    unfold Oper.wp
    generalize (execOp a.eval o).run P w = r at *
    cases r with
    | ok n w' =>
      cases n <;> simp only [Oper.quietUpon] at h3 <;> simp only [Oper.upon]
      case value u => rw [h3.1, h3.2]; exact h _ (Below.refl _ _)
      case skip => rw [h3.1, ← h3.2]; exact h _ (Below.refl _ _)
      case enter f args =>
        rw [h3.1]
        exact h3.2.mono fun e w'' he => by obtain ⟨he, hw''⟩ := he; subst he; exact h _ hw''
    | halt x w' => simp only [Oper.quietUpon] at h3
  · rw [if_neg (by rw [hw]; simp)]
    exact h _ (Below.refl _ _)
theorem wpOp_putQt {j : Nat} {oi oj : Oper} {v : Value} (hj : ops[j]? = some oj) (hap : oi.apart ops oj = true)
    (hsi : ∀ cs b, oi.op ≠ .select cs b) (hsj : ∀ cs b, oj.op ≠ .select cs b) (hQ : ∀ c a w, Q (.panic c) (a.put oi.dst v) w → Q (.panic c) a w) {K : Act → World → Prop} {a : Act} {w : World}
    (hy : Qt P ops C oi v a) (h : wpOp P ops Q j K (a.put oi.dst v) w) : wpOp P ops Q j (fun a' w' => Qt P ops C oi v a' ∧ K (a'.put oi.dst v) w') a w := by
  obtain ⟨h1, h2, h3⟩ := Oper.apart_spec hap
  have keep : ∀ (b : Act), Qt P ops C oi v b → ∀ u, Qt P ops C oi v (b.put oj.dst u) := fun b hb u => hb.same (execOp_put oi hsi b oj.dst u h3) (wanted_put oi b oj.dst u h3)
  have swap : ∀ (b : Act) u, Qt P ops C oi v b → K ((b.put oi.dst v).put oj.dst u) = K ((b.put oj.dst u).put oi.dst v) := fun b u _ => by rw [Act.put_comm b v u h2]
  unfold wpOp at *
  simp only [hj] at *
  rw [wanted_put oj a oi.dst v h1] at h
  by_cases hw : Region.wanted oj (yielded ops a.tmps) = true
  · rw [if_pos hw] at h ⊢
    rcases h with h | ⟨hasks, hlets⟩
    · refine .inl ?_
      unfold Oper.wp at *
      rw [execOp_put oj hsj a oi.dst v h1] at h
      generalize (execOp a.eval oj).run P w = r at *
      cases r with
      | ok n w' =>
        cases n <;> simp only [Oper.upon] at h ⊢
        case value u => exact ⟨keep a hy u, by rw [← swap a u hy]; exact h⟩
        case skip => exact ⟨keep a hy _, by rw [← swap a _ hy]; exact h⟩
        case defer d =>
          have hyd : Qt P ops C oi v { a with defers := d :: a.defers } := hy.same rfl rfl
          refine ⟨keep _ hyd _, ?_⟩
          rw [← swap _ _ hyd, ← Act.put_defers]
          exact h
        case enter f args =>
          refine Calls.mono h fun e w'' he => ?_
          cases e with
          | returned u => exact ⟨keep a hy u, by rw [← swap a u hy]; exact he⟩
          | panicked c => exact hQ _ _ _ he
          | outgrown => exact he
        case row row args => exact Rows.mono h fun u w'' he => ⟨keep a hy u, by rw [← swap a u hy]; exact he⟩
      | halt x w' =>
        cases x <;> simp only [Oper.upon] at h ⊢
        case panic u => exact hQ _ _ _ h
    · exact .inr ⟨by unfold Oper.asks at *; rw [execOp_put oj hsj a oi.dst v h1] at hasks; exact hasks, hlets⟩
  · rw [if_neg hw] at h ⊢
    exact ⟨keep a hy _, by rw [← swap a _ hy]; exact h⟩

/-- Whatever order is picked; more memory may come at any time; the class holds throughout. -/
def wpRg (P : Program) (md : Region.Mode) (ops : Array Oper) (C : World → Prop) (Q : Exit → Act → World → Prop) (f : Nat) (listed : Array Bool) (a : Act) (w : World) : Prop :=
  match f with
  | 0 => Region.ready md ops listed = [] ∧ ∀ w', C w' → Ext w w' → Q .normal a w'
  | f + 1 => (Region.ready md ops listed = [] → ∀ w', C w' → Ext w w' → Q .normal a w') ∧
    ∀ i ∈ Region.ready md ops listed, ∀ w', C w' → Ext w w' → wpOp P ops Q i (fun a' w'' => C w'' ∧ wpRg P md ops C Q f (listed.setIfInBounds i true) a' w'') a w'
theorem wpRg_ext {f : Nat} {listed : Array Bool} {a : Act} {w w1 : World} (h : wpRg P md ops C Q f listed a w) (he : Ext w w1) : wpRg P md ops C Q f listed a w1 := by
  cases f with
  | zero => exact ⟨h.1, fun w' hc h1 => h.2 w' hc (bel_trans he h1)⟩
  | succ f => exact ⟨fun hr w' hc h1 => h.1 hr w' hc (bel_trans he h1), fun i hi w' hc h1 => h.2 i hi w' hc (bel_trans he h1)⟩
theorem wpAny_of_wpRg (f : Nat) : ∀ (listed : Array Bool) (a : Act) (w : World), C w → wpRg P md ops C Q f listed a w → wpAny P md ops Q f listed a w := by
  induction f with
  | zero => intro listed a w hc h; exact ⟨h.1, h.2 w hc (Below.refl _ _)⟩
  | succ f ih =>
    intro listed a w hc h
    exact ⟨fun hr => h.1 hr w hc (Below.refl _ _), fun i hi => wpOp_mono (fun a' w' h' => ih _ a' w' h'.1 h'.2) (h.2 i hi w hc (Below.refl _ _))⟩
theorem wpRg_first {i : Nat} {oi : Oper} {v : Value} (hCE : ∀ w w', C w → Ext w w' → C w') (hi : ops[i]? = some oi) (hsel : ∀ (j : Nat) (o : Oper) cs b, ops[j]? = some o → o.op ≠ .select cs b)
    (hQ : ∀ c a w, Q (.panic c) (a.put oi.dst v) w → Q (.panic c) a w) (f : Nat) :
    ∀ (listed : Array Bool) (a : Act) (w : World),
      (∀ j oj, ops[j]? = some oj → j ≠ i → listed.getD j true = false → (∀ e ∈ oj.after, Region.binds md e = true → e.on ≠ i) → oi.apart ops oj = true) →
      i ∈ Region.ready md ops listed → Qt P ops C oi v a →
      wpRg P md ops C Q f (listed.setIfInBounds i true) (a.put oi.dst v) w → wpRg P md ops C Q (f + 1) listed a w := by
  induction f with
  | zero =>
    intro listed a w _ hr hy H
    refine ⟨fun e => absurd e (List.ne_nil_of_mem hr), fun j hj w' hc he => ?_⟩
    rcases Decidable.em (j = i) with e | e
    · subst e
      exact hy.wpOp hi hc fun w'' h2 => ⟨hCE _ _ hc h2, wpRg_ext H (bel_trans he h2)⟩
    · have := ready_mono hj e
      rw [H.1] at this
      cases this
  | succ f ih =>
    intro listed a w hfree hr hy H
    refine ⟨fun e => absurd e (List.ne_nil_of_mem hr), fun j hj w' hc he => ?_⟩
    rcases Decidable.em (j = i) with e | e
    · subst e
      exact hy.wpOp hi hc fun w'' h2 => ⟨hCE _ _ hc h2, wpRg_ext H (bel_trans he h2)⟩
    · obtain ⟨hjun, oj, hoj, hall⟩ := mem_ready.1 hj
      have hnot : ∀ e ∈ oj.after, Region.binds md e = true → e.on ≠ i := by
        intro e he hb heq
        have h1 := hall e he hb
        rw [heq, getD_both (mem_ready.1 hr).1] at h1
        cases h1
      have h2 := wpOp_putQt hoj (hfree j oj hoj e hjun hnot) (fun cs b => hsel i oi cs b hi) (fun cs b => hsel j oj cs b hoj) hQ hy (H.2 j (ready_mono hj e) w' hc he)
      refine wpOp_mono (fun a' w'' h3 => ⟨h3.2.1, ?_⟩) h2
      refine ih (listed.setIfInBounds j true) a' w'' (fun k ok hk hki hun' hno => ?_) (ready_mono hr (Ne.symm e)) h3.1 ?_
      · refine hfree k ok hk hki ?_ hno
        rcases Decidable.em (j = k) with ejk | ejk
        · rw [← ejk]; exact hjun
        · rwa [getD_set_ne true ejk] at hun'
      · rw [Array.setIfInBounds_comm _ _ e]
        exact h3.2.2

/-- The walk: quiet operations. -/
def wpHead (P : Program) (ops : Array Oper) (C : World → Prop) (L : Act → Prop) : List Oper → Act → Prop
  | [], a => L a
  | o :: rest, a => ∃ v, Qt P ops C o v a ∧ wpHead P ops C L rest (a.put o.dst v)
/-- The walk: the others, one behind the other; more memory may come before each. -/
def wpTail (P : Program) (ops : Array Oper) (C : World → Prop) (Q : Exit → Act → World → Prop) : List Oper → Act → World → Prop
  | [], a, w => ∀ w', C w' → Ext w w' → Q .normal a w'
  | o :: rest, a, w => ∀ w', C w' → Ext w w' → Region.wanted o (yielded ops a.tmps) = true ∧ o.wp P a w' (fun a' w'' => C w'' ∧ wpTail P ops C Q rest a' w'') Q
theorem wpTail_drawn {l : List Oper} {a : Act} {w : World} (h : wpTail P ops C Q l a w) : wpTail P ops C Q l a { w with drawn := w.drawn + 1 } := by
  cases l with
  | nil => exact fun w' hc he => h w' hc ⟨he.os, he.tape, he.output, he.size, he.block⟩
  | cons o r => exact fun w' hc he => h w' hc ⟨he.os, he.tape, he.output, he.size, he.block⟩
theorem wpRg_of_tail (l : List Oper) : ∀ (k : Nat) (listed : Array Bool) (a : Act) (w : World), (∀ j, l[j]? = ops[k + j]?) → Region.seqB md ops l.length k listed = true → wpTail P ops C Q l a w → wpRg P md ops C Q l.length listed a w := by
  induction l with
  | nil => intro k listed a w _ hB h; exact ⟨by simpa [Region.seqB] using hB, h⟩
  | cons o l ih =>
    intro k listed a w hl hB h
    have h0 : ops[k]? = some o := by simpa using (hl 0).symm
    simp only [List.length_cons, Region.seqB, Bool.and_eq_true, decide_eq_true_eq] at hB
    refine ⟨fun e => (by rw [hB.1] at e; cases e), fun i hi w' hc he => ?_⟩
    obtain rfl : i = k := by rw [hB.1] at hi; simpa using hi
    obtain ⟨hw, h1⟩ := h w' hc he
    unfold wpOp
    simp only [h0]
    rw [if_pos hw]
    exact .inl (Oper.wp_mono (fun a' w'' h2 => ⟨h2.1, ih (i + 1) _ a' w'' (fun j => by have := hl (j + 1); simpa [Nat.add_assoc, Nat.add_comm 1 j] using this) hB.2 h2.2⟩) h1)
theorem wpRg_of_head {g n : Nat} {L : Act → Prop} {w : World} (hCE : ∀ w w', C w → Ext w w' → C w') (hsel : Region.noSelect ops = true) (hQ : ∀ (d : Option Tmp) v c a w, Q (.panic c) (a.put d v) w → Q (.panic c) a w)
    (hL : ∀ listed a, Region.seqB md ops g n listed = true → L a → wpRg P md ops C Q g listed a w) (l : List Oper) :
    ∀ (k : Nat) (listed : Array Bool) (a : Act), (∀ j, j < l.length → l[j]? = ops[k + j]?) → k + l.length = n → Region.lexHead md ops g l.length k listed = true → wpHead P ops C L l a → wpRg P md ops C Q (l.length + g) listed a w := by
  induction l with
  | nil =>
    intro k listed a _ hk hB h
    have e : k = n := by simpa using hk
    rw [e] at hB
    rw [List.length_nil, Nat.zero_add]
    exact hL _ _ (by simpa [Region.lexHead] using hB) h
  | cons o l ih =>
    intro k listed a hl hk hB h
    have h0 : ops[k]? = some o := by simpa using (hl 0 (by simp)).symm
    simp only [List.length_cons, Region.lexHead, Bool.and_eq_true] at hB hk
    have hr : k ∈ Region.ready md ops listed := by simpa using hB.1.1
    obtain ⟨v, hy, hK⟩ := h
    rw [List.length_cons, Nat.add_right_comm]
    refine wpRg_first hCE h0 (Region.noSelect_spec hsel) (hQ _ _) _ listed a w (Region.free_spec h0 hB.1.2) hr hy ?_
    refine ih (k + 1) _ _ (fun j hj => ?_) (by omega) hB.2 hK
    have := hl (j + 1) (by simp; omega)
    simpa [Nat.add_assoc, Nat.add_comm 1 j] using this
end
section
variable {P : Program} {C : World → Prop} {ops : Array Oper}
theorem wp_region_tail {id : Nat} {Q : Exit → Act → World → Prop} {a : Act} {w : World} {l : List Oper} (n : Nat) (hm : P.follows .mixedOrders = true) (hB : (Region.noSelect l.toArray && decide (n < l.length) && Region.lexHead .any l.toArray (l.length - n) n 0 (Array.replicate l.length false)) = true)
    (hQ : ∀ (d : Option Tmp) v c a w, Q (.panic c) (a.put d v) w → Q (.panic c) a w) (hC : C { w with drawn := w.drawn + 1 }) (hCE : ∀ w w', C w → Ext w w' → C w')
    (h : wpHead P l.toArray C (fun a' => wpTail P l.toArray C Q (l.drop n) a' w) (l.take n) a) : (Code.region id l.toArray true).wp P Q a w := by
  simp only [Bool.and_eq_true, decide_eq_true_eq] at hB
  obtain ⟨⟨hsel, hn⟩, hlex⟩ := hB
  have htl : (l.take n).length = n := by simp; omega
  have hdl : (l.drop n).length = l.length - n := by simp
  refine wp_region_any hm (wpAny_of_wpRg _ _ _ _ hC ?_)
  have H := wpRg_of_head (md := .any) (g := l.length - n) (n := n) (w := { w with drawn := w.drawn + 1 }) hCE hsel hQ (fun listed a' hs hL => by
    have h4 : wpTail P l.toArray C Q (l.drop n) a' { w with drawn := w.drawn + 1 } := wpTail_drawn hL
    have h3 := wpRg_of_tail (ops := l.toArray) (md := .any) (l.drop n) n listed a' { w with drawn := w.drawn + 1 } (fun j => by simp [List.getElem?_drop]) (by rw [hdl]; exact hs) h4
    rwa [hdl] at h3) (l.take n) 0 (Array.replicate l.length false) a (fun j hj => by rw [htl] at hj; simp [hj]) (by simpa using htl) (by rw [htl]; exact hlex) h
  rw [htl, show n + (l.length - n) = l.length by omega] at H
  simpa using H
theorem headV {L : Act → Prop} {o : Oper} {rest : List Oper} {ts : Array Value} {ds : List Deferred} {v : Value} {d : Nat} (hw : Region.wanted o (yielded ops ts) = true) (hd : o.dst = some d) (h1 : ∀ w', C w' → o.quietAt P { tmps := ts, defers := ds } (Ext w') w' v)
    (h2 : wpHead P ops C L rest { tmps := ts.setIfInBounds d v, defers := ds }) : wpHead P ops C L (o :: rest) { tmps := ts, defers := ds } :=
  ⟨v, .inl ⟨hw, h1⟩, by rw [hd]; exact h2⟩
theorem headSkip {L : Act → Prop} {o : Oper} {rest : List Oper} {ts : Array Value} {ds : List Deferred} {d : Nat} (hw : Region.wanted o (yielded ops ts) = false) (hd : o.dst = some d)
    (h2 : wpHead P ops C L rest { tmps := ts.setIfInBounds d undef, defers := ds }) : wpHead P ops C L (o :: rest) { tmps := ts, defers := ds } :=
  ⟨undef, .inr ⟨hw, rfl⟩, by rw [hd]; exact h2⟩
theorem tailV {Q : Exit → Act → World → Prop} {o : Oper} {rest : List Oper} {a : Act} {w : World} (hw : Region.wanted o (yielded ops a.tmps) = true) (h : ∀ w', C w' → Ext w w' → o.wp P a w' (fun a' w'' => C w'' ∧ wpTail P ops C Q rest a' w'') Q) : wpTail P ops C Q (o :: rest) a w :=
  fun w' hc he => ⟨hw, h w' hc he⟩
theorem tailK {Q : Exit → Act → World → Prop} {o : Oper} {rest : List Oper} {a : Act} {w : World} (hw : Region.wanted o (yielded ops a.tmps) = true)
    (h : ∀ w', C w' → Ext w w' → ∀ K : Act → World → Prop, (∀ a' w'', C w'' → wpTail P ops C Q rest a' w'' → K a' w'') → o.wp P a w' K Q) : wpTail P ops C Q (o :: rest) a w :=
  fun w' hc he => ⟨hw, h w' hc he _ fun _ _ h1 h2 => ⟨h1, h2⟩⟩
theorem wp_region_tailN {id : Nat} {Q : Exit → Act → World → Prop} {a : Act} {w : World} {l : List Oper} (n : Nat) (hm : P.follows .mixedOrders = true) (hB : (Region.noSelect l.toArray && decide (n < l.length) && Region.lexHead .any l.toArray (l.length - n) n 0 (Array.replicate l.length false)) = true)
    (hC : C { w with drawn := w.drawn + 1 }) (hCE : ∀ w w', C w → Ext w w' → C w')
    (h : wpHead P l.toArray C (fun a' => wpTail P l.toArray C (NoPanic Q) (l.drop n) a' w) (l.take n) a) : (Code.region id l.toArray true).wp P Q a w :=
  wp_region_noPanic (wp_region_tail n hm hB (fun _ _ _ _ _ h => h) hC hCE h)
/-- A call's contract in a quiet place. -/
theorem callsX {f : FuncId} {args : Array Value} {w' : World} {v : Value} (h : Calls P f args w' (Ret w' v)) : Calls P f args w' (fun e w'' => e = .returned v ∧ Ext w' w'') := h.mono fun _ _ h2 => ⟨h2.1, h2.2⟩
/-- The class for an append onto a row of the call's own: all else is as it was. -/
def Gr (w : World) (A : Option Addr) (w' : World) : Prop := w.grownBy w' (ob A)
theorem Gr.drawn (w : World) (A : Option Addr) : Gr w A { w with drawn := w.drawn + 1 } := ⟨rfl, rfl, rfl, Nat.le_refl _, fun _ _ _ => rfl⟩
theorem Gr.ext {w : World} {A : Option Addr} {w1 w2 : World} (h : Gr w A w1) (he : Ext w1 w2) : Gr w A w2 :=
  ⟨he.os.trans h.os, he.tape.trans h.tape, he.output.trans h.output, Nat.le_trans h.size he.size, fun k hk hne => (he.block k (Nat.lt_of_lt_of_le hk h.size)).trans (h.block k hk hne)⟩
theorem Gr.trans {w : World} {A : Option Addr} {w1 w2 : World} (h : Gr w A w1) (k : w1.grownBy w2 (ob A)) : Gr w A w2 :=
  ⟨k.os.trans h.os, k.tape.trans h.tape, k.output.trans h.output, Nat.le_trans h.size k.size, fun b hb hne => (k.block b (Nat.lt_of_lt_of_le hb h.size) hne).trans (h.block b hb hne)⟩
theorem Gr.cells {w w' : World} {A : Option Addr} (h : Gr w A w') : ∀ b o, b < w.heap.size → some b ≠ ob A → w'.cell? ⟨b, o, none⟩ = w.cell? ⟨b, o, none⟩ := fun b _ hb hne => World.cell?_of_block (h.block b hb hne)
/-- The class where nothing that was there is written. -/
def ExC (w w' : World) : Prop := Below w.heap.size w w'
theorem ExC.drawn (w : World) : ExC w { w with drawn := w.drawn + 1 } := ⟨rfl, rfl, rfl, Nat.le_refl _, fun _ _ => rfl⟩
theorem ExC.ext {w w1 w2 : World} (h : ExC w w1) (he : Ext w1 w2) : ExC w w2 := bel_trans h he
theorem ExC.cells {w w' : World} (h : ExC w w') : ∀ b o, b < w.heap.size → w'.cell? ⟨b, o, none⟩ = w.cell? ⟨b, o, none⟩ := (bcell h).1
theorem Gr.cell {w w' : World} {A : Option Addr} {b : Nat} (h : Gr w A w') (hb : b < w.heap.size) (hne : some b ≠ ob A) (o : Nat) : w'.cell? ⟨b, o, none⟩ = w.cell? ⟨b, o, none⟩ :=
  World.cell?_of_block (h.block b hb hne)
end
end Go.Proofs.YtfnphchcgaebkaaGreat

/- The steps of a snake. -/
namespace Go.Proofs.YtfnphchcgaebkaaGreat
open Go.RowKit
set_option linter.unusedVariables false
attribute [local go_sem ↓] Go.wp_at_zero Go.wp_at_succ

theorem stepOf_i (a b c d : Int) (w : World) : Calls Tryz.prog 27 #[.agg #[.int .i64 a, .int .i64 b], .agg #[.int .i64 c, .int .i64 d]] w (Ret w (.int .u8 (stepV (a, b) (c, d)).toNat)) := by
  by_cases h1 : a < c
  · have HV := Lib.hid (show stepV (a, b) (c, d) = 114 by unfold stepV; simp only [gt_iff_lt, h1, if_true])
    go_enter Tryz.func27, Tryz.ntmps27
    go_wp2
    go_ret
    exact ⟨by rw [HV.out]; rfl, (by (repeat (first | with_reducible exact Below.refl _ _ | with_reducible assumption | with_reducible apply bel_alloc | with_reducible apply bel_drew | with_reducible apply bel_drewN | ((with_reducible refine bel_set ?_ ?_); rotate_left; (simp <;> omega)) | (with_reducible refine bel_trans ?_ (by with_reducible assumption)))))⟩
  by_cases h2 : c < a
  · have HV := Lib.hid (show stepV (a, b) (c, d) = 108 by unfold stepV; simp only [gt_iff_lt, h1, h2, if_true, if_false])
    go_enter Tryz.func27, Tryz.ntmps27
    go_wp2
    go_ret
    exact ⟨by rw [HV.out]; rfl, (by (repeat (first | with_reducible exact Below.refl _ _ | with_reducible assumption | with_reducible apply bel_alloc | with_reducible apply bel_drew | with_reducible apply bel_drewN | ((with_reducible refine bel_set ?_ ?_); rotate_left; (simp <;> omega)) | (with_reducible refine bel_trans ?_ (by with_reducible assumption)))))⟩
  by_cases h3 : b < d
  · have HV := Lib.hid (show stepV (a, b) (c, d) = 100 by unfold stepV; simp only [gt_iff_lt, h1, h2, h3, if_true, if_false])
    go_enter Tryz.func27, Tryz.ntmps27
    go_wp2
    go_ret
    exact ⟨by rw [HV.out]; rfl, (by (repeat (first | with_reducible exact Below.refl _ _ | with_reducible assumption | with_reducible apply bel_alloc | with_reducible apply bel_drew | with_reducible apply bel_drewN | ((with_reducible refine bel_set ?_ ?_); rotate_left; (simp <;> omega)) | (with_reducible refine bel_trans ?_ (by with_reducible assumption)))))⟩
  · have HV := Lib.hid (show stepV (a, b) (c, d) = 117 by unfold stepV; simp only [gt_iff_lt, h1, h2, h3, if_false])
    go_enter Tryz.func27, Tryz.ntmps27
    go_wp2
    go_ret
    exact ⟨by rw [HV.out]; rfl, (by (repeat (first | with_reducible exact Below.refl _ _ | with_reducible assumption | with_reducible apply bel_alloc | with_reducible apply bel_drew | with_reducible apply bel_drewN | ((with_reducible refine bel_set ?_ ?_); rotate_left; (simp <;> omega)) | (with_reducible refine bel_trans ?_ (by with_reducible assumption)))))⟩

def wordTo (l : List C) (k : Nat) : List UInt8 := (List.range k).map fun i => stepV (l.getD i (0, 0)) (l.getD (i + 1) (0, 0))
theorem wordTo_succ (l : List C) (k : Nat) : wordTo l (k + 1) = wordTo l k ++ [stepV (l.getD k (0, 0)) (l.getD (k + 1) (0, 0))] := by simp [wordTo, List.range_succ]
theorem wordTo_len (l : List C) (k : Nat) : (wordTo l k).length = k := by simp [wordTo]
noncomputable def snakeWord (s : List C) : List UInt8 := wordTo (snakeOrder s) ((snakeOrder s).length - 1)
noncomputable def snakeWordV (s : List C) : Value := .tuple #[.string (bs (snakeWord s)), .bool (isSnake s)]
theorem snakeWord_no {xs : List C} (h : isSnake xs = false) : snakeWord xs = [] := by unfold snakeWord; rw [snakeOrder_no h]; rfl
set_option maxHeartbeats 1600000 in
theorem SnakeWord_i (A : Option Addr) (n c : Nat) (xs : List C) (w : World) (hr : Rd w A (vC xs)) (hl : xs.length = n) (hn : n ≤ 1099511627776) :
    Calls Tryz.prog 6 #[.slice A n c] w (Ret w (snakeWordV xs)) := by
  have HL := Lib.hid hl
  cases hc : isSnake xs with
  | false =>
    have HV : Hid (snakeWordV xs = .tuple #[.string (bs []), .bool false]) := by show snakeWordV xs = _; unfold snakeWordV; rw [snakeWord_no hc, hc]
    have HC := Lib.hid hc
    clear hc hl
    go_enter Tryz.func6, Tryz.ntmps6
    go_wp2_with (go_at_call 11; refine (SnakeOrder_i _ _ _ xs _ hr HL.out (by omega)).mono ?_; rw [HC.out]; rintro e w1 ⟨B, m, cap, rfl, ho, hb1⟩; clear ho)
    go_ret2
    exact ⟨by rw [HV.out]; rfl, (by (repeat (first | with_reducible exact Below.refl _ _ | with_reducible assumption | with_reducible apply bel_alloc | with_reducible apply bel_drew | with_reducible apply bel_drewN | ((with_reducible refine bel_set ?_ ?_); rotate_left; (simp <;> omega)) | (with_reducible refine bel_trans ?_ (by with_reducible assumption)))))⟩
  | true =>
    have hlen := shape_len (conn_shape (tree_conn (snake_tree hc)))
    have HV : Hid (snakeWordV xs = .tuple #[.string (bs (wordTo (snakeOrder xs) (n - 1))), .bool true]) := by show snakeWordV xs = _; unfold snakeWordV snakeWord; rw [hc, snakeOrder_len hc, hl]
    have HSL := Lib.hid (snakeOrder_len hc)
    have HC := Lib.hid hc
    have hn8 : n ≤ 8 := by omega
    have hn1 : 1 ≤ n := by omega
    clear hc hlen hl
    go_enter Tryz.func6, Tryz.ntmps6
    go_wp2_with fail
    refine (SnakeOrder_i _ _ _ xs _ hr HL.out (by omega)).mono ?_
    rw [HC.out]
    rintro e w1 ⟨B, m, cap, rfl, ho, hb1⟩
    generalize snakeOrder xs = l at HV HSL ho
    have hlm : l.length = m := by have := own_len ho; rw [vC_length] at this; omega
    obtain rfl : m = n := by have := HSL.out; have := HL.out; omega
    have HLM := Lib.hid hlm
    have hrd := Rd.of_own ho
    clear hlm
    go_wp2_with fail
    go_loopw [6, 7] (fun e i wr => ∃ (k q cp : Nat) (A' : Option Addr), 1 ≤ k ∧ k ≤ m ∧ q + 1 = k ∧ i = .int .i64 k ∧ e = .slice A' q cp ∧ wr.ownsRow w1.heap.size 5 1 (.slice A' q cp) q (vB (wordTo l q)) ∧ Below w1.heap.size w1 wr) (fun _ i _ => m - (intOf i).toNat)
    case atStart => exact ⟨1, 0, 0, none, Nat.le_refl _, hn1, rfl, rfl, rfl, own_nil _ _ _ _, (by (repeat (first | with_reducible exact Below.refl _ _ | with_reducible assumption | with_reducible apply bel_alloc | with_reducible apply bel_drew | with_reducible apply bel_drewN | ((with_reducible refine bel_set ?_ ?_); rotate_left; (simp <;> omega)) | (with_reducible refine bel_trans ?_ (by with_reducible assumption)))))⟩
    case round =>
      obtain ⟨k, j, cp, A', hk1, hk, hjk, rfl, rfl, hown, hb⟩ := hrel
      by_cases hlt : k < m
      · have hl1 : j < l.length := by rw [HLM.out]; omega
        have hl2 : k < l.length := by rw [HLM.out]; omega
        obtain ⟨g, off, rfl, hgw, c1, c2⟩ := RdC.at_ (hrd.below hb) hl1
        obtain ⟨g', off', hgg, _, d1, d2⟩ := RdC.at_ (hrd.below hb) hl2
        obtain ⟨rfl, rfl⟩ : g = g' ∧ off = off' := by injection hgg with h; injection h with h1 h2; exact ⟨h1, h2⟩
        have hws := wordTo_succ l j
        rw [hjk, List.getD_eq_getElem?_getD, List.getD_eq_getElem?_getD, List.getElem?_eq_getElem hl1, List.getElem?_eq_getElem hl2] at hws
        simp only [Option.getD_some] at hws
        obtain ⟨⟨x, y⟩, hxy⟩ : ∃ p, l[j] = p := ⟨_, rfl⟩
        obtain ⟨⟨x', y'⟩, hxy'⟩ : ∃ p, l[k] = p := ⟨_, rfl⟩
        rw [hxy] at c1 c2 hws
        rw [hxy'] at d1 d2 hws
        have HR := Lib.hid hws
        have HJ := Lib.hid hjk
        have hgw1 : g < w1.heap.size := (own_lt ho g rfl).2
        have hj8 : j ≤ 8 := by omega
        have hi0 : (0 : Int) ≤ (k : Int) := by omega
        have hi1 : (k : Int) < (m : Int) := by omega
        have hi2 : (k : Int) - 1 < (m : Int) := by omega
        have hi3 : ((k : Int) - 1).toNat = j := by omega
        have hi4 : (0 : Int) ≤ (k : Int) - 1 := by omega
        have hi6 : (1 : Int) ≤ (k : Int) := by omega
        have hi8 : (k : Int) < (m : Int) + 1 := by omega
        have hi5 : IntKind.i64.wrap ((k : Int) - 1) = (k : Int) - 1 := IntWalk.i64_in _ (by omega)
        clear hxy hxy' hgg hjk hws
        go_wp2_with fail
        have hne : some g ≠ ob A' := fun h => by have := (own_lt hown g h.symm).1; omega
        (refine wp_region_tailN (C := Gr wr A') 11 (by kernel_rfl) (by kernel_rfl) (Gr.drawn _ _) (fun _ _ h k => h.ext k) ?_; simp only [List.take_succ_cons, List.take_zero, List.drop_succ_cons, List.drop_zero]; (repeat (first | (refine headSkip (by rfl) rfl ?_; simp only [List.setIfInBounds_toArray, List.set_cons_zero, List.set_cons_succ]) | (refine headV (v := ?_) (by rfl) rfl (fun w' hcw => ?_) ?_; rotate_left; ((try dsimp only at hcw); have hbc := hcw.cells; go_simp; first | done | with_reducible rfl | (exact callsX (v := .int .u8 (stepV (x, y) (x', y')).toNat) (stepOf_i _ _ _ _ _))); simp only [List.setIfInBounds_toArray, List.set_cons_zero, List.set_cons_succ]))); unfold wpHead)
        (refine tailK (by rfl) (fun w3 hc3 he3 K hK => ?_); go_simp; refine hK _ _ (hc3.ext (by (repeat (first | with_reducible exact Below.refl _ _ | with_reducible assumption | with_reducible apply bel_alloc | with_reducible apply bel_drew | with_reducible apply bel_drewN | ((with_reducible refine bel_set ?_ ?_); rotate_left; (simp <;> omega)) | (with_reducible refine bel_trans ?_ (by with_reducible assumption)))))) ?_; clear hK K)
        (refine tailK (by rfl) (fun w4 hc4 he4 K hK => ?_); refine wpB _ _ _ rfl w1.heap.size A' j cp (wordTo l j) rfl (own_keep ((own_keep hown he3).alloc _) he4) _ 1 1 [stepV (x, y) (x', y')] rfl (Rd.below (rd_newB _ _ _) he4) rfl (by omega) (by have h1 := hb.size; have h2 := he3.size; have h3 := he4.size; simp at h3; omega) ?_; intro A2 c2 w5 hown5 hg5 _; refine hK _ _ (Gr.trans hc4 hg5) ?_; clear hK K; simp only [Act.put, List.setIfInBounds_toArray, List.set_cons_zero, List.set_cons_succ])
        (refine tailK (by rfl) (fun w6 hc6 he6 K hK => ?_); go_simp; refine hK _ _ (hc6) ?_; clear hK K)
        (refine fun w7 hc7 he7 => NoPanic.normal ?_)
        have hb5 : Below w1.heap.size w1 w5 := bel_app (bel_trans (bel_alloc (bel_trans hb he3) _) he4) hg5 (fun g' hg' => ((own_lt hown) g' hg').1)
        have HO3 := Lib.hid (own_keep (own_keep hown5 he6) he7)
        clear hown5
        go_wp2
        exact ⟨⟨k + 1, j + 1, c2, A2, by omega, by omega, by rw [HJ.out], by go_num, rfl, by rw [HJ.out, HR.out]; have h := HO3.out; rw [HJ.out] at h; exact h, (by (repeat (first | with_reducible exact Below.refl _ _ | with_reducible assumption | with_reducible apply bel_alloc | with_reducible apply bel_drew | with_reducible apply bel_drewN | ((with_reducible refine bel_set ?_ ?_); rotate_left; (simp <;> omega)) | (with_reducible refine bel_trans ?_ (by with_reducible assumption)))))⟩, by simp [intOf]; omega⟩
      · have hkm : k = m := by omega
        have hcv := conv_B wr (n := j) (c := cp) (Rd.of_own hown) (by rw [wordTo_len])
        have hjm : j = m - 1 := by omega
        rw [← hjm] at HV
        have HCV := Lib.hid hcv
        have hlt2 : ¬ (k : Int) < (m : Int) := by omega
        clear hcv hjm hjk hkm
        have hcv := HCV.out
        go_wp2
        go_ret2
        exact ⟨by rw [HV.out]; rfl, (by (repeat (first | with_reducible exact Below.refl _ _ | with_reducible assumption | with_reducible apply bel_alloc | with_reducible apply bel_drew | with_reducible apply bel_drewN | ((with_reducible refine bel_set ?_ ?_); rotate_left; (simp <;> omega)) | (with_reducible refine bel_trans ?_ (by with_reducible assumption)))))⟩

theorem data_app2 (a b : ByteArray) : (a ++ b).data.toList = a.data.toList ++ b.data.toList := by simp [ByteArray.data_append]
theorem stepV_r {x y x' y' : Int} (h : x < x') : stepV (x, y) (x', y') = 114 := by unfold stepV; rw [if_pos (show x' > x by omega)]
theorem stepV_l {x y x' y' : Int} (h : x' < x) : stepV (x, y) (x', y') = 108 := by unfold stepV; rw [if_neg (show ¬ x' > x by omega), if_pos (show x' < x by omega)]
theorem stepV_d {x y x' y' : Int} (hn : near (x, y) (x', y') = true) (h : y < y') : stepV (x, y) (x', y') = 100 := by
  simp only [near, decide_eq_true_eq] at hn
  unfold stepV
  rw [if_neg (show ¬ x' > x by omega), if_neg (show ¬ x' < x by omega), if_pos (show y' > y by omega)]
theorem stepV_u {x y x' y' : Int} (h1 : ¬ x < x') (h2 : ¬ y < y') (h3 : ¬ x' < x) : stepV (x, y) (x', y') = 117 := by
  unfold stepV
  rw [if_neg (show ¬ x' > x by omega), if_neg (show ¬ x' < x by omega), if_neg (show ¬ y' > y by omega)]
set_option maxHeartbeats 1600000 in
theorem SnakeWord_s (A : Option Addr) (n c : Nat) (xs : List C) (w : World) (hr : Rd w A (vC xs)) (hl : xs.length = n) (hn : n ≤ 1099511627776) :
    Calls Tryz.prog 7 #[.slice A n c] w (Ret w (snakeWordV xs)) := by
  have HV : Hid (snakeWordV xs = .tuple #[.string (bs (wordTo (snakeOrder xs) ((snakeOrder xs).length - 1))), .bool (isSnake xs)]) := rfl
  have hadj0 : ∀ l, snakeOrder xs = l → ∀ i (h : i + 1 < l.length), near l[i] l[i + 1] = true := by rintro l rfl i h; exact snakeOrder_adj i h
  have hm8 : (snakeOrder xs).length ≤ 1048576 := snakeOrder_le xs
  go_enter Tryz.func7, Tryz.ntmps7
  go_wp2_with fail
  refine (SnakeOrder_s _ _ _ xs _ hr hl (by omega)).mono ?_
  rintro e w1 ⟨B, m, cap, rfl, ho, hb1⟩
  generalize hl0 : snakeOrder xs = l at HV ho hm8
  have hadj := hadj0 l hl0
  clear hadj0 hl0
  generalize isSnake xs = ok at HV
  have hlm : l.length = m := by have := own_len ho; rw [vC_length] at this; omega
  rw [hlm] at HV hm8
  have HLM := Lib.hid hlm
  have HAD := Lib.hid hadj
  have hrd := Rd.of_own ho
  clear hlm hadj hl
  go_wp2_with fail
  go_loopw [6, 7] (fun e i wr => ∃ (k j : Nat) (q : ByteArray), 1 ≤ k ∧ (k ≤ m ∨ k = 1) ∧ j + 1 = k ∧ i = .int .i64 k ∧ e = .string q ∧ q.data.toList = wordTo l j ∧ Below w1.heap.size w1 wr) (fun _ i _ => m - (intOf i).toNat)
  case atStart => exact ⟨1, 0, _, Nat.le_refl _, .inr rfl, rfl, rfl, rfl, rfl, (by (repeat (first | with_reducible exact Below.refl _ _ | with_reducible assumption | with_reducible apply bel_alloc | with_reducible apply bel_drew | with_reducible apply bel_drewN | ((with_reducible refine bel_set ?_ ?_); rotate_left; (simp <;> omega)) | (with_reducible refine bel_trans ?_ (by with_reducible assumption)))))⟩
  case round =>
    obtain ⟨k, j, q, hk1, hk, hjk, rfl, rfl, hq, hb⟩ := hrel
    have hk' : k ≤ 1048577 := by omega
    by_cases hlt : k < m
    · have hl1 : j < l.length := by rw [HLM.out]; omega
      have hl2 : k < l.length := by rw [HLM.out]; omega
      obtain ⟨g, off, rfl, hgw, c1, c2⟩ := RdC.at_ (hrd.below hb) hl1
      obtain ⟨g', off', hgg, _, d1, d2⟩ := RdC.at_ (hrd.below hb) hl2
      obtain ⟨rfl, rfl⟩ : g = g' ∧ off = off' := by injection hgg with h; injection h with h1 h2; exact ⟨h1, h2⟩
      have hws := wordTo_succ l j
      have hnr := HAD.out j (by omega)
      simp only [hjk] at hnr
      rw [hjk, List.getD_eq_getElem?_getD, List.getD_eq_getElem?_getD, List.getElem?_eq_getElem hl1, List.getElem?_eq_getElem hl2] at hws
      simp only [Option.getD_some] at hws
      obtain ⟨⟨x, y⟩, hxy⟩ : ∃ p, l[j] = p := ⟨_, rfl⟩
      obtain ⟨⟨x', y'⟩, hxy'⟩ : ∃ p, l[k] = p := ⟨_, rfl⟩
      rw [hxy] at c1 c2 hws hnr
      rw [hxy'] at d1 d2 hws hnr
      have HR := Lib.hid hws
      have HJ := Lib.hid hjk
      have HN := Lib.hid hnr
      have HQ := Lib.hid hq
      have hqs : q.size ≤ 1048577 := by have := congrArg List.length hq; rw [data_len, wordTo_len] at this; omega
      have hi0 : (0 : Int) ≤ (k : Int) := by omega
      have hi1 : (k : Int) < (m : Int) := by omega
      have hi2 : (k : Int) - 1 < (m : Int) := by omega
      have hi3 : ((k : Int) - 1).toNat = j := by omega
      have hi4 : (0 : Int) ≤ (k : Int) - 1 := by omega
      have hi6 : (1 : Int) ≤ (k : Int) := by omega
      have hi8 : (k : Int) < (m : Int) + 1 := by omega
      have hi5 : IntKind.i64.wrap ((k : Int) - 1) = (k : Int) - 1 := IntWalk.i64_in _ (by omega)
      clear hxy hxy' hgg hjk hws hnr hq
      by_cases h1 : x < x'
      · have HV2 := Lib.hid (stepV_r h1 : stepV (x, y) (x', y') = 114)
        go_wp2_with fail
        (refine wp_region_below (by kernel_rfl) (by kernel_rfl) ?_; (repeat (first | go_big_quiet_skip | (refine quietV (v := ?_) (by rfl) rfl (fun w' hbw => ?_) ?_; rotate_left; ((try dsimp only at hbw); have hbc := (bcell hbw).1; have hbf := (bcell hbw).2; go_simp; first | done | with_reducible rfl | fail); simp only [List.setIfInBounds_toArray, List.set_cons_zero, List.set_cons_succ]))); refine wpQuiet_nil ?_; intro wq0 hq0)
        have c1' := keep_below hq0 c1
        have c2' := keep_below hq0 c2
        have d1' := keep_below hq0 d1
        have d2' := keep_below hq0 d2
        go_wp2_with fail
        exact ⟨⟨k + 1, j + 1, _, by omega, by omega, by rw [HJ.out], by go_num, rfl, by rw [data_app2, HQ.out, HJ.out, HR.out, HV2.out], (by (repeat (first | with_reducible exact Below.refl _ _ | with_reducible assumption | with_reducible apply bel_alloc | with_reducible apply bel_drew | with_reducible apply bel_drewN | ((with_reducible refine bel_set ?_ ?_); rotate_left; (simp <;> omega)) | (with_reducible refine bel_trans ?_ (by with_reducible assumption)))))⟩, by simp [intOf]; omega⟩
      by_cases h2 : y < y'
      · have HV2 := Lib.hid (stepV_d HN.out h2 : stepV (x, y) (x', y') = 100)
        go_wp2_with fail
        (refine wp_region_below (by kernel_rfl) (by kernel_rfl) ?_; (repeat (first | go_big_quiet_skip | (refine quietV (v := ?_) (by rfl) rfl (fun w' hbw => ?_) ?_; rotate_left; ((try dsimp only at hbw); have hbc := (bcell hbw).1; have hbf := (bcell hbw).2; go_simp; first | done | with_reducible rfl | fail); simp only [List.setIfInBounds_toArray, List.set_cons_zero, List.set_cons_succ]))); refine wpQuiet_nil ?_; intro wq0 hq0)
        have c1' := keep_below hq0 c1
        have c2' := keep_below hq0 c2
        have d1' := keep_below hq0 d1
        have d2' := keep_below hq0 d2
        have hgw5 := Nat.lt_of_lt_of_le hgw hq0.size
        go_wp2_with fail
        (refine wp_region_below (by kernel_rfl) (by kernel_rfl) ?_; (repeat (first | go_big_quiet_skip | (refine quietV (v := ?_) (by rfl) rfl (fun w' hbw => ?_) ?_; rotate_left; ((try dsimp only at hbw); have hbc := (bcell hbw).1; have hbf := (bcell hbw).2; go_simp; first | done | with_reducible rfl | fail); simp only [List.setIfInBounds_toArray, List.set_cons_zero, List.set_cons_succ]))); refine wpQuiet_nil ?_; intro wq1 hq1)
        have c1'' := keep_below hq1 c1'
        have c2'' := keep_below hq1 c2'
        have d1'' := keep_below hq1 d1'
        have d2'' := keep_below hq1 d2'
        go_wp2_with fail
        exact ⟨⟨k + 1, j + 1, _, by omega, by omega, by rw [HJ.out], by go_num, rfl, by rw [data_app2, HQ.out, HJ.out, HR.out, HV2.out], (by (repeat (first | with_reducible exact Below.refl _ _ | with_reducible assumption | with_reducible apply bel_alloc | with_reducible apply bel_drew | with_reducible apply bel_drewN | ((with_reducible refine bel_set ?_ ?_); rotate_left; (simp <;> omega)) | (with_reducible refine bel_trans ?_ (by with_reducible assumption)))))⟩, by simp [intOf]; omega⟩
      by_cases h3 : x' < x
      · have HV2 := Lib.hid (stepV_l h3 : stepV (x, y) (x', y') = 108)
        go_wp2_with fail
        (refine wp_region_below (by kernel_rfl) (by kernel_rfl) ?_; (repeat (first | go_big_quiet_skip | (refine quietV (v := ?_) (by rfl) rfl (fun w' hbw => ?_) ?_; rotate_left; ((try dsimp only at hbw); have hbc := (bcell hbw).1; have hbf := (bcell hbw).2; go_simp; first | done | with_reducible rfl | fail); simp only [List.setIfInBounds_toArray, List.set_cons_zero, List.set_cons_succ]))); refine wpQuiet_nil ?_; intro wq0 hq0)
        have c1' := keep_below hq0 c1
        have c2' := keep_below hq0 c2
        have d1' := keep_below hq0 d1
        have d2' := keep_below hq0 d2
        have hgw5 := Nat.lt_of_lt_of_le hgw hq0.size
        go_wp2_with fail
        (refine wp_region_below (by kernel_rfl) (by kernel_rfl) ?_; (repeat (first | go_big_quiet_skip | (refine quietV (v := ?_) (by rfl) rfl (fun w' hbw => ?_) ?_; rotate_left; ((try dsimp only at hbw); have hbc := (bcell hbw).1; have hbf := (bcell hbw).2; go_simp; first | done | with_reducible rfl | fail); simp only [List.setIfInBounds_toArray, List.set_cons_zero, List.set_cons_succ]))); refine wpQuiet_nil ?_; intro wq1 hq1)
        have c1'' := keep_below hq1 c1'
        have c2'' := keep_below hq1 c2'
        have d1'' := keep_below hq1 d1'
        have d2'' := keep_below hq1 d2'
        have hgw6 := Nat.lt_of_lt_of_le hgw5 hq1.size
        go_wp2_with fail
        (refine wp_region_below (by kernel_rfl) (by kernel_rfl) ?_; (repeat (first | go_big_quiet_skip | (refine quietV (v := ?_) (by rfl) rfl (fun w' hbw => ?_) ?_; rotate_left; ((try dsimp only at hbw); have hbc := (bcell hbw).1; have hbf := (bcell hbw).2; go_simp; first | done | with_reducible rfl | fail); simp only [List.setIfInBounds_toArray, List.set_cons_zero, List.set_cons_succ]))); refine wpQuiet_nil ?_; intro wq2 hq2)
        have c1''' := keep_below hq2 c1''
        have c2''' := keep_below hq2 c2''
        have d1''' := keep_below hq2 d1''
        have d2''' := keep_below hq2 d2''
        go_wp2_with fail
        exact ⟨⟨k + 1, j + 1, _, by omega, by omega, by rw [HJ.out], by go_num, rfl, by rw [data_app2, HQ.out, HJ.out, HR.out, HV2.out], (by (repeat (first | with_reducible exact Below.refl _ _ | with_reducible assumption | with_reducible apply bel_alloc | with_reducible apply bel_drew | with_reducible apply bel_drewN | ((with_reducible refine bel_set ?_ ?_); rotate_left; (simp <;> omega)) | (with_reducible refine bel_trans ?_ (by with_reducible assumption)))))⟩, by simp [intOf]; omega⟩
      · have HV2 := Lib.hid (stepV_u h1 h2 h3 : stepV (x, y) (x', y') = 117)
        go_wp2_with fail
        (refine wp_region_below (by kernel_rfl) (by kernel_rfl) ?_; (repeat (first | go_big_quiet_skip | (refine quietV (v := ?_) (by rfl) rfl (fun w' hbw => ?_) ?_; rotate_left; ((try dsimp only at hbw); have hbc := (bcell hbw).1; have hbf := (bcell hbw).2; go_simp; first | done | with_reducible rfl | fail); simp only [List.setIfInBounds_toArray, List.set_cons_zero, List.set_cons_succ]))); refine wpQuiet_nil ?_; intro wq0 hq0)
        have c1' := keep_below hq0 c1
        have c2' := keep_below hq0 c2
        have d1' := keep_below hq0 d1
        have d2' := keep_below hq0 d2
        have hgw5 := Nat.lt_of_lt_of_le hgw hq0.size
        go_wp2_with fail
        (refine wp_region_below (by kernel_rfl) (by kernel_rfl) ?_; (repeat (first | go_big_quiet_skip | (refine quietV (v := ?_) (by rfl) rfl (fun w' hbw => ?_) ?_; rotate_left; ((try dsimp only at hbw); have hbc := (bcell hbw).1; have hbf := (bcell hbw).2; go_simp; first | done | with_reducible rfl | fail); simp only [List.setIfInBounds_toArray, List.set_cons_zero, List.set_cons_succ]))); refine wpQuiet_nil ?_; intro wq1 hq1)
        have c1'' := keep_below hq1 c1'
        have c2'' := keep_below hq1 c2'
        have d1'' := keep_below hq1 d1'
        have d2'' := keep_below hq1 d2'
        have hgw6 := Nat.lt_of_lt_of_le hgw5 hq1.size
        go_wp2_with fail
        (refine wp_region_below (by kernel_rfl) (by kernel_rfl) ?_; (repeat (first | go_big_quiet_skip | (refine quietV (v := ?_) (by rfl) rfl (fun w' hbw => ?_) ?_; rotate_left; ((try dsimp only at hbw); have hbc := (bcell hbw).1; have hbf := (bcell hbw).2; go_simp; first | done | with_reducible rfl | fail); simp only [List.setIfInBounds_toArray, List.set_cons_zero, List.set_cons_succ]))); refine wpQuiet_nil ?_; intro wq2 hq2)
        have c1''' := keep_below hq2 c1''
        have c2''' := keep_below hq2 c2''
        have d1''' := keep_below hq2 d1''
        have d2''' := keep_below hq2 d2''
        go_wp2_with fail
        exact ⟨⟨k + 1, j + 1, _, by omega, by omega, by rw [HJ.out], by go_num, rfl, by rw [data_app2, HQ.out, HJ.out, HR.out, HV2.out], (by (repeat (first | with_reducible exact Below.refl _ _ | with_reducible assumption | with_reducible apply bel_alloc | with_reducible apply bel_drew | with_reducible apply bel_drewN | ((with_reducible refine bel_set ?_ ?_); rotate_left; (simp <;> omega)) | (with_reducible refine bel_trans ?_ (by with_reducible assumption)))))⟩, by simp [intOf]; omega⟩
    · have hjm : j = m - 1 := by omega
      rw [hjm] at hq
      have HB := Lib.hid (bs_of hq)
      clear hq hjm hjk
      have hlt2 : ¬ (k : Int) < (m : Int) := by omega
      go_wp2
      go_ret2
      exact ⟨by rw [HV.out, ← HB.out]; rfl, (by (repeat (first | with_reducible exact Below.refl _ _ | with_reducible assumption | with_reducible apply bel_alloc | with_reducible apply bel_drew | with_reducible apply bel_drewN | ((with_reducible refine bel_set ?_ ?_); rotate_left; (simp <;> omega)) | (with_reducible refine bel_trans ?_ (by with_reducible assumption)))))⟩
theorem snakeWord_form (xs : List C) : ∃ q b, snakeWordV xs = .tuple #[.string q, .bool b] := ⟨_, _, rfl⟩
end Go.Proofs.YtfnphchcgaebkaaGreat

/- Words of snakes: the word leads over the snake's cells, its reverse over the same cells back; a snake has two ends. No program is in sight. -/
namespace Go.Proofs.YtfnphchcgaebkaaGreat
open Go.RowKit
set_option linter.unusedVariables false
/-- The shape of a word's places. -/
def sowV (w : List UInt8) : List C × Bool := match wayW (0, 0) w with
  | none => ([], false)
  | some l => if isShape (cornI l) then (cornI l, true) else ([], false)
theorem sowV_none {w : List UInt8} (h : wayW (0, 0) w = none) : sowV w = ([], false) := by unfold sowV; rw [h]
theorem sowV_no {w : List UInt8} {l : List C} (h : wayW (0, 0) w = some l) (hs : isShape (cornI l) = false) : sowV w = ([], false) := by unfold sowV; rw [h]; simp only; rw [hs]; rfl
theorem sowV_yes {w : List UInt8} {l : List C} (h : wayW (0, 0) w = some l) (hs : isShape (cornI l) = true) : sowV w = (cornI l, true) := by unfold sowV; rw [h]; simp only; rw [hs]; rfl
theorem step_near {a b o : C} (ha : onB a = true) (hb : onB b = true) (ho : onB o = true) (hn : near a b = true) : stepW (a.1 - o.1, a.2 - o.2) (stepV a b) = some (b.1 - o.1, b.2 - o.2) := by
  obtain ⟨a1, a2⟩ := a
  obtain ⟨b1, b2⟩ := b
  obtain ⟨o1, o2⟩ := o
  simp only [onB, Bool.and_eq_true, decide_eq_true_eq] at ha hb ho
  simp only [near, decide_eq_true_eq] at hn
  have e1 : wrap64 (a1 - o1 + 1) = a1 - o1 + 1 := IntWalk.wrap64_in _ (by omega)
  have e2 : wrap64 (a1 - o1 - 1) = a1 - o1 - 1 := IntWalk.wrap64_in _ (by omega)
  have e3 : wrap64 (a2 - o2 + 1) = a2 - o2 + 1 := IntWalk.wrap64_in _ (by omega)
  have e4 : wrap64 (a2 - o2 - 1) = a2 - o2 - 1 := IntWalk.wrap64_in _ (by omega)
  unfold stepW stepV
  simp only [e1, e2, e3, e4]
  by_cases h1 : b1 > a1
  · rw [if_pos h1, if_pos rfl]
    exact congrArg some (Prod.ext (by simp only; omega) (by simp only; omega))
  · by_cases h2 : b1 < a1
    · rw [if_neg h1, if_pos h2, if_neg (by decide), if_pos rfl]
      exact congrArg some (Prod.ext (by simp only; omega) (by simp only; omega))
    · by_cases h3 : b2 > a2
      · rw [if_neg h1, if_neg h2, if_pos h3, if_neg (by decide), if_neg (by decide), if_pos rfl]
        exact congrArg some (Prod.ext (by simp only; omega) (by simp only; omega))
      · rw [if_neg h1, if_neg h2, if_neg h3, if_neg (by decide), if_neg (by decide), if_neg (by decide), if_pos rfl]
        exact congrArg some (Prod.ext (by simp only; omega) (by simp only; omega))
theorem step_opp {a b : C} (hn : near a b = true) : stepV b a = oppS (stepV a b) := by
  obtain ⟨a1, a2⟩ := a
  obtain ⟨b1, b2⟩ := b
  simp only [near, decide_eq_true_eq] at hn
  unfold stepV
  simp only
  by_cases h1 : b1 > a1
  · rw [if_neg (show ¬ a1 > b1 by omega), if_pos (show a1 < b1 by omega), if_pos h1]; rfl
  · by_cases h2 : b1 < a1
    · rw [if_pos (show a1 > b1 by omega), if_neg h1, if_pos h2]; rfl
    · by_cases h3 : b2 > a2
      · rw [if_neg (show ¬ a1 > b1 by omega), if_neg (show ¬ a1 < b1 by omega), if_neg (show ¬ a2 > b2 by omega), if_neg h1, if_neg h2, if_pos h3]; rfl
      · rw [if_neg (show ¬ a1 > b1 by omega), if_neg (show ¬ a1 < b1 by omega), if_pos (show a2 > b2 by omega), if_neg h1, if_neg h2, if_neg h3]; rfl
theorem getD_of {l : List C} {i : Nat} (h : i < l.length) : l.getD i (0, 0) = l[i] := by rw [List.getD_eq_getElem?_getD, List.getElem?_eq_getElem h]; rfl
/-- A list of cells each beside the next. -/
structure Chain (l : List C) : Prop where
  pos : 0 < l.length
  adj : ∀ i (h : i + 1 < l.length), near l[i] l[i + 1] = true
  on : ∀ c ∈ l, onB c = true
theorem Chain.way {l : List C} (h : Chain l) : ∀ k (hk : k < l.length),
    wayW (0, 0) (wordTo l k) = some (mv (l.take (k + 1)) (-(l[0]'h.pos).1) (-(l[0]'h.pos).2)) ∧ endW (0, 0) (wordTo l k) = some (l[k].1 - (l[0]'h.pos).1, l[k].2 - (l[0]'h.pos).2) := by
  intro k
  induction k with
  | zero =>
    intro hk
    have e : l.take (0 + 1) = [l[0]] := by rw [List.take_succ_eq_append_getElem hk]; rfl
    rw [e]
    have e0 : ((l[0].1 - l[0].1, l[0].2 - l[0].2) : C) = (0, 0) := Prod.ext (by simp only; omega) (by simp only; omega)
    have e1 : ((l[0].1 + -l[0].1, l[0].2 + -l[0].2) : C) = (0, 0) := Prod.ext (by simp only; omega) (by simp only; omega)
    rw [e0]
    refine ⟨?_, rfl⟩
    show some [((0 : Int), (0 : Int))] = some [((l[0].1 + -l[0].1, l[0].2 + -l[0].2) : C)]
    rw [e1]
  | succ k ih =>
    intro hk
    obtain ⟨h1, h2⟩ := ih (by omega)
    have hs := step_near (h.on _ (List.getElem_mem (by omega : k < l.length))) (h.on _ (List.getElem_mem hk)) (h.on _ (List.getElem_mem h.pos)) (h.adj k hk)
    rw [wordTo_succ, getD_of (by omega : k < l.length), getD_of hk, wayW_snoc, endW_snoc, h1, h2]
    simp only [Option.bind_some, hs, Option.map_some]
    refine ⟨?_, trivial⟩
    rw [mv_take l _ _ (k + 1) hk]
    have e : ((l[k + 1].1 - l[0].1, l[k + 1].2 - l[0].2) : C) = (l[k + 1].1 + -l[0].1, l[k + 1].2 + -l[0].2) := Prod.ext (by simp only; omega) (by simp only; omega)
    rw [e]
theorem Chain.corn {l : List C} (h : Chain l) : ∃ t, wayW (0, 0) (wordTo l (l.length - 1)) = some t ∧ cornI t = cornI l := by
  have hp := h.pos
  obtain ⟨h1, _⟩ := h.way (l.length - 1) (by omega)
  rw [List.take_of_length_le (by omega)] at h1
  refine ⟨_, h1, cornI_same h.pos (by rw [mv_len]; exact h.pos) (-(l[0]).1) (-(l[0]).2) fun c => ?_⟩
  exact mv_mem l _ _ c
theorem Chain.rev {l : List C} (h : Chain l) : Chain l.reverse ∧ wordTo l.reverse (l.length - 1) = revW (wordTo l (l.length - 1)) := by
  have hp := h.pos
  refine ⟨⟨by rw [List.length_reverse]; exact hp, fun i hi => ?_, fun c hc => h.on c (List.mem_reverse.1 hc)⟩, ?_⟩
  · rw [List.length_reverse] at hi
    rw [List.getElem_reverse, List.getElem_reverse, near_symm]
    have := h.adj (l.length - 1 - (i + 1)) (by omega)
    have e : l.length - 1 - (i + 1) + 1 = l.length - 1 - i := by omega
    simp only [e] at this
    exact this
  · unfold revW
    refine List.ext_getElem (by rw [wordTo_len, List.length_map, List.length_reverse, wordTo_len]) fun i h1 h2 => ?_
    rw [wordTo_len] at h1
    rw [List.getElem_map, List.getElem_reverse]
    simp only [wordTo, List.getElem_map, List.getElem_range, List.length_map, List.length_range]
    rw [getD_of (by rw [List.length_reverse]; omega : i < l.reverse.length), getD_of (by rw [List.length_reverse]; omega : i + 1 < l.reverse.length), List.getElem_reverse, List.getElem_reverse, getD_of (by omega : l.length - 1 - 1 - i < l.length), getD_of (by omega : l.length - 1 - 1 - i + 1 < l.length)]
    have ha := h.adj (l.length - 1 - 1 - i) (by omega)
    rw [← step_opp ha]
    have e1 : l.length - 1 - i = l.length - 1 - 1 - i + 1 := by omega
    have e2 : l.length - 1 - (i + 1) = l.length - 1 - 1 - i := by omega
    simp only [e1, e2]
theorem order_chain {s : List C} (hs : isSnake s = true) : Chain (snakeOrder s) ∧ (∀ c, c ∈ snakeOrder s ↔ c ∈ s) ∧ (snakeOrder s).length = s.length := by
  have hsh := conn_shape (tree_conn (snake_tree hs))
  have hn := shape_len hsh
  have hl := snakeOrder_len hs
  have hmem : ∀ c, c ∈ snakeOrder s ↔ c ∈ s := by
    intro c
    by_cases h1 : s.length = 1
    · have e : snakeOrder s = s := by unfold snakeOrder; rw [hs, if_pos rfl, if_pos h1]
      rw [e]
    · have e : snakeOrder s = walkBy s (s.length - 1) := by unfold snakeOrder; rw [hs, if_pos rfl, if_neg h1]
      obtain ⟨h2, hw⟩ := walk_way hs (by omega) (s.length - 1) (by omega)
      rw [← e] at h2 hw
      exact ⟨hw.sub c, nodup_full _ _ hw.nd hw.sub hl c⟩
  exact ⟨⟨by omega, fun i h => snakeOrder_adj i h, fun c hc => shape_onB hsh c ((hmem c).1 hc)⟩, hmem, hl⟩
theorem snake_word {s : List C} (hs : isSnake s = true) : sowV (snakeWord s) = (cornS s, true) ∧ sowV (revW (snakeWord s)) = (cornS s, true) ∧ (snakeWord s).all isS = true ∧ (snakeWord s).length = s.length - 1 := by
  have hsh := conn_shape (tree_conn (snake_tree hs))
  have hn := shape_len hsh
  obtain ⟨hc, hm, hl⟩ := order_chain hs
  obtain ⟨t, h1, h2⟩ := hc.corn
  obtain ⟨hr1, hr2⟩ := hc.rev
  obtain ⟨u, h3, h4⟩ := hr1.corn
  rw [List.length_reverse, hr2] at h3
  have e1 : cornI (snakeOrder s) = cornS s := by
    have e : cornI (snakeOrder s) = cornI s := cornI_same (by omega) (by omega) 0 0 fun c => by
      have e0 : ((c.1 - 0, c.2 - 0) : C) = c := Prod.ext (by simp) (by simp)
      rw [e0, hm]
    rw [e, cornI_shape hsh]
    rfl
  have e2 : cornI (snakeOrder s).reverse = cornS s := by
    rw [← e1]
    refine cornI_same (by omega) (by rw [List.length_reverse]; omega) 0 0 fun c => by
      have e0 : ((c.1 - 0, c.2 - 0) : C) = c := Prod.ext (by simp) (by simp)
      rw [e0, List.mem_reverse]
  have e3 : isShape (cornS s) = true := by
    have e : cornS s = cornI s := (cornI_shape hsh).symm
    rw [e]
    exact corn_shape (shape_nodup hsh) (shape_onB hsh) hn.1 hn.2
  rw [e1] at h2
  rw [e2] at h4
  refine ⟨?_, ?_, ?_, ?_⟩
  · unfold snakeWord
    rw [sowV_yes h1 (by rw [h2]; exact e3), h2]
  · unfold snakeWord
    rw [sowV_yes h3 (by rw [h4]; exact e3), h4]
  · unfold snakeWord
    rw [← wayW_all (c := (0, 0)), h1]
    rfl
  · unfold snakeWord
    rw [wordTo_len, hl]
theorem sum_two (f : C → Nat) : ∀ (q : List C), (∀ c ∈ q, 1 ≤ f c ∧ f c ≤ 2) → (q.map f).sum + q.countP (fun c => f c == 1) = 2 * q.length
  | [], _ => rfl
  | a :: t, h => by
    have h1 := sum_two f t (fun c hc => h c (by simp [hc]))
    have h2 := h a (by simp)
    rw [List.map_cons, List.sum_cons, List.countP_cons, List.length_cons]
    by_cases h3 : f a = 1
    · have e : (f a == 1) = true := by rw [h3]; rfl
      rw [e, if_pos rfl]; omega
    · have e : (f a == 1) = false := by rw [beq_eq_false_iff_ne]; exact h3
      rw [e]
      simp only [Bool.false_eq_true, if_false]
      omega
/-- A snake of two cells or more has two ends. -/
theorem ends_two {s : List C} (hs : isSnake s = true) (hl : 2 ≤ s.length) : (ends s).length = 2 := by
  have ht := snake_tree hs
  have hc := tree_conn ht
  have hsh := conn_shape hc
  have hi : inner s s.length = s.length - 1 := by simp only [isTree, Bool.and_eq_true, beq_iff_eq] at ht; exact ht.2
  have hsum := sumDeg_inner s s.length (Nat.le_refl _)
  rw [List.take_length, hi] at hsum
  have h2 := sum_two (deg s) s fun c hcs => ⟨deg_pos (conn_conn hc) (shape_nodup hsh) hl hcs, snake_deg hs c hcs⟩
  unfold sumDeg at hsum
  unfold ends
  rw [if_pos hsh, ← List.countP_eq_length_filter]
  omega
end Go.Proofs.YtfnphchcgaebkaaGreat

/- What the program's and the reference's functions on single steps do: walks. -/
namespace Go.Proofs.YtfnphchcgaebkaaGreat
open Go.RowKit
set_option linter.unusedVariables false
attribute [local go_sem ↓] Go.wp_at_zero Go.wp_at_succ

/-- What a step returns: the place behind it, whether it is one. -/
def StepP (c : C) (b : UInt8) (w : World) (e : Ending) (w' : World) : Prop :=
  e = .returned (.tuple #[.agg #[.int .i64 ((stepW c b).getD c).1, .int .i64 ((stepW c b).getD c).2], .bool (stepW c b).isSome]) ∧ Below w.heap.size w w'

theorem stepFrom_i (x y : Int) (b : UInt8) (w : World) :
    Calls Tryz.prog 53 #[.agg #[.int .i64 x, .int .i64 y], .int .u8 b.toNat] w (StepP (x, y) b w) := by
  by_cases h1 : b = 114
  · subst h1
    go_enter Tryz.func53, Tryz.ntmps53
    go_wp2
    exact bodyPost_ret (v := .tuple #[.agg #[.int .i64 (wrap64 (x + 1)), .int .i64 y], .bool true]) (by simp [results, Tryz.results53, go_sem]) rfl ⟨rfl, (by (repeat (first | with_reducible exact Below.refl _ _ | with_reducible assumption | with_reducible apply bel_alloc | with_reducible apply bel_drew | with_reducible apply bel_drewN | ((with_reducible refine bel_set ?_ ?_); rotate_left; (simp <;> omega)) | (with_reducible refine bel_trans ?_ (by with_reducible assumption)))))⟩
  by_cases h2 : b = 108
  · subst h2
    go_enter Tryz.func53, Tryz.ntmps53
    go_wp2
    exact bodyPost_ret (v := .tuple #[.agg #[.int .i64 (wrap64 (x - 1)), .int .i64 y], .bool true]) (by simp [results, Tryz.results53, go_sem]) rfl ⟨rfl, (by (repeat (first | with_reducible exact Below.refl _ _ | with_reducible assumption | with_reducible apply bel_alloc | with_reducible apply bel_drew | with_reducible apply bel_drewN | ((with_reducible refine bel_set ?_ ?_); rotate_left; (simp <;> omega)) | (with_reducible refine bel_trans ?_ (by with_reducible assumption)))))⟩
  by_cases h3 : b = 100
  · subst h3
    go_enter Tryz.func53, Tryz.ntmps53
    go_wp2
    exact bodyPost_ret (v := .tuple #[.agg #[.int .i64 x, .int .i64 (wrap64 (y + 1))], .bool true]) (by simp [results, Tryz.results53, go_sem]) rfl ⟨rfl, (by (repeat (first | with_reducible exact Below.refl _ _ | with_reducible assumption | with_reducible apply bel_alloc | with_reducible apply bel_drew | with_reducible apply bel_drewN | ((with_reducible refine bel_set ?_ ?_); rotate_left; (simp <;> omega)) | (with_reducible refine bel_trans ?_ (by with_reducible assumption)))))⟩
  by_cases h4 : b = 117
  · subst h4
    go_enter Tryz.func53, Tryz.ntmps53
    go_wp2
    exact bodyPost_ret (v := .tuple #[.agg #[.int .i64 x, .int .i64 (wrap64 (y - 1))], .bool true]) (by simp [results, Tryz.results53, go_sem]) rfl ⟨rfl, (by (repeat (first | with_reducible exact Below.refl _ _ | with_reducible assumption | with_reducible apply bel_alloc | with_reducible apply bel_drew | with_reducible apply bel_drewN | ((with_reducible refine bel_set ?_ ?_); rotate_left; (simp <;> omega)) | (with_reducible refine bel_trans ?_ (by with_reducible assumption)))))⟩
  have e1 : ((b.toNat : Int) == 114) = false := (u8_is b 114).trans (by simpa using h1)
  have e2 : ((b.toNat : Int) == 108) = false := (u8_is b 108).trans (by simpa using h2)
  have e3 : ((b.toNat : Int) == 100) = false := (u8_is b 100).trans (by simpa using h3)
  have e4 : ((b.toNat : Int) == 117) = false := (u8_is b 117).trans (by simpa using h4)
  have e : stepW (x, y) b = none := by simp [stepW, h1, h2, h3, h4]
  clear h1 h2 h3 h4
  have E := Lib.hid e
  clear e
  go_enter Tryz.func53, Tryz.ntmps53
  go_wp2
  exact bodyPost_ret (v := .tuple #[.agg #[.int .i64 x, .int .i64 y], .bool false]) (by simp [results, Tryz.results53, go_sem]) rfl ⟨by rw [E.out]; rfl, (by (repeat (first | with_reducible exact Below.refl _ _ | with_reducible assumption | with_reducible apply bel_alloc | with_reducible apply bel_drew | with_reducible apply bel_drewN | ((with_reducible refine bel_set ?_ ?_); rotate_left; (simp <;> omega)) | (with_reducible refine bel_trans ?_ (by with_reducible assumption)))))⟩

theorem l26Step_s (x y : Int) (b : UInt8) (w : World) :
    Calls Tryz.prog 40 #[.agg #[.int .i64 x, .int .i64 y], .int .u8 b.toNat] w (StepP (x, y) b w) := by
  by_cases h1 : b = 114
  · subst h1
    go_enter Tryz.func40, Tryz.ntmps40
    go_wp2
    exact bodyPost_ret (v := .tuple #[.agg #[.int .i64 (wrap64 (x + 1)), .int .i64 y], .bool true]) (by simp [results, Tryz.results40, go_sem]) rfl ⟨rfl, (by (repeat (first | with_reducible exact Below.refl _ _ | with_reducible assumption | with_reducible apply bel_alloc | with_reducible apply bel_drew | with_reducible apply bel_drewN | ((with_reducible refine bel_set ?_ ?_); rotate_left; (simp <;> omega)) | (with_reducible refine bel_trans ?_ (by with_reducible assumption)))))⟩
  by_cases h2 : b = 108
  · subst h2
    go_enter Tryz.func40, Tryz.ntmps40
    go_wp2
    exact bodyPost_ret (v := .tuple #[.agg #[.int .i64 (wrap64 (x - 1)), .int .i64 y], .bool true]) (by simp [results, Tryz.results40, go_sem]) rfl ⟨rfl, (by (repeat (first | with_reducible exact Below.refl _ _ | with_reducible assumption | with_reducible apply bel_alloc | with_reducible apply bel_drew | with_reducible apply bel_drewN | ((with_reducible refine bel_set ?_ ?_); rotate_left; (simp <;> omega)) | (with_reducible refine bel_trans ?_ (by with_reducible assumption)))))⟩
  by_cases h3 : b = 100
  · subst h3
    go_enter Tryz.func40, Tryz.ntmps40
    go_wp2
    exact bodyPost_ret (v := .tuple #[.agg #[.int .i64 x, .int .i64 (wrap64 (y + 1))], .bool true]) (by simp [results, Tryz.results40, go_sem]) rfl ⟨rfl, (by (repeat (first | with_reducible exact Below.refl _ _ | with_reducible assumption | with_reducible apply bel_alloc | with_reducible apply bel_drew | with_reducible apply bel_drewN | ((with_reducible refine bel_set ?_ ?_); rotate_left; (simp <;> omega)) | (with_reducible refine bel_trans ?_ (by with_reducible assumption)))))⟩
  by_cases h4 : b = 117
  · subst h4
    go_enter Tryz.func40, Tryz.ntmps40
    go_wp2
    exact bodyPost_ret (v := .tuple #[.agg #[.int .i64 x, .int .i64 (wrap64 (y - 1))], .bool true]) (by simp [results, Tryz.results40, go_sem]) rfl ⟨rfl, (by (repeat (first | with_reducible exact Below.refl _ _ | with_reducible assumption | with_reducible apply bel_alloc | with_reducible apply bel_drew | with_reducible apply bel_drewN | ((with_reducible refine bel_set ?_ ?_); rotate_left; (simp <;> omega)) | (with_reducible refine bel_trans ?_ (by with_reducible assumption)))))⟩
  have e1 : ((b.toNat : Int) == 114) = false := (u8_is b 114).trans (by simpa using h1)
  have e2 : ((b.toNat : Int) == 108) = false := (u8_is b 108).trans (by simpa using h2)
  have e3 : ((b.toNat : Int) == 100) = false := (u8_is b 100).trans (by simpa using h3)
  have e4 : ((b.toNat : Int) == 117) = false := (u8_is b 117).trans (by simpa using h4)
  have e : stepW (x, y) b = none := by simp [stepW, h1, h2, h3, h4]
  clear h1 h2 h3 h4
  have E := Lib.hid e
  clear e
  go_enter Tryz.func40, Tryz.ntmps40
  go_wp2
  exact bodyPost_ret (v := .tuple #[.agg #[.int .i64 x, .int .i64 y], .bool false]) (by simp [results, Tryz.results40, go_sem]) rfl ⟨by rw [E.out]; rfl, (by (repeat (first | with_reducible exact Below.refl _ _ | with_reducible assumption | with_reducible apply bel_alloc | with_reducible apply bel_drew | with_reducible apply bel_drewN | ((with_reducible refine bel_set ?_ ?_); rotate_left; (simp <;> omega)) | (with_reducible refine bel_trans ?_ (by with_reducible assumption)))))⟩

end Go.Proofs.YtfnphchcgaebkaaGreat

/- What the program's and the reference's functions on words of steps do: walks. -/
namespace Go.Proofs.YtfnphchcgaebkaaGreat
open Go.RowKit
set_option linter.unusedVariables false
attribute [local go_sem ↓] Go.wp_at_zero Go.wp_at_succ

/-- What the places of a way return: none for a letter that is no step. -/
def WayP (o : Option (List C)) (w : World) (e : Ending) (w' : World) : Prop :=
  match o with
  | none => e = .returned (.tuple #[.slice none 0 0, .bool false]) ∧ Below w.heap.size w w'
  | some l => RetS2 w 40 2 (vC l) (.bool true) e w'

set_option maxHeartbeats 400000 in
theorem wayOf_i (s : ByteArray) (m : Int) (w : World) (h0 : (s.size : Int) ≤ m) (hm : s.size ≤ 1000) :
    Calls Tryz.prog 30 #[.string s, .int .i64 m] w (WayP (wayW (0, 0) s.data.toList) w) := by
  go_enter Tryz.func30, Tryz.ntmps30
  go_wp2
  go_loopw [6, 7] (fun o i wr => ∃ (k n cap : Nat) (A : Option Addr) (l : List C) (d : C), k ≤ s.size ∧ i = .int .i64 k ∧ o = .slice A n cap ∧ n = k + 1 ∧
      wr.ownsRow w.heap.size 40 2 (.slice A n cap) n (vC l) ∧ wayW (0, 0) (s.data.toList.take k) = some l ∧ endW (0, 0) (s.data.toList.take k) = some d ∧ l.getD k (0, 0) = d ∧ Below w.heap.size w wr) (fun _ i _ => s.size - (intOf i).toNat)
  case atStart => exact ⟨0, 1, 1, _, [(0, 0)], (0, 0), by omega, rfl, rfl, rfl, own_newC w _ 0 0 (Nat.le_refl _), rfl, rfl, rfl, (by (repeat (first | with_reducible exact Below.refl _ _ | with_reducible assumption | with_reducible apply bel_alloc | with_reducible apply bel_drew | with_reducible apply bel_drewN | ((with_reducible refine bel_set ?_ ?_); rotate_left; (simp <;> omega)) | (with_reducible refine bel_trans ?_ (by with_reducible assumption)))))⟩
  case round =>
    obtain ⟨k, n, cap, A, l, ⟨x, y⟩, hk, rfl, rfl, hnk, hown, hl, hd, hgd, hb⟩ := hrel
    have hlen := own_len hown
    rw [vC_length] at hlen
    by_cases hlt : k < s.size
    · have hlk : k < l.length := by omega
      obtain ⟨g, off, rfl, hgw, c1, c2⟩ := RdC.at_ (Rd.of_own hown) hlk
      have hdk : l[k] = (x, y) := by rw [← hgd, List.getD_eq_getElem?_getD, List.getElem?_eq_getElem hlk]; rfl
      rw [hdk] at c1 c2
      have ew := way_step s k hlt (0, 0) (x, y) l hl hd
      have ee := end_step s k hlt (0, 0) (x, y) hd
      have hi0 : (0 : Int) ≤ (k : Int) := by omega
      have hi1 : (k : Int) < (s.size : Int) := by omega
      have hi2 : (k : Int) < (n : Int) := by omega
      have hi3 : k < n := by omega
      have hi4 : n ≤ 1001 := by omega
      have n1 := World.new_ne wr _ c1
      have HL := Lib.hid hl; have HD := Lib.hid hd; have HG := Lib.hid hgd; have HK := Lib.hid hdk; have HW := Lib.hid ew; have HE := Lib.hid ee; have HN := Lib.hid hlen; have HM := Lib.hid hnk
      clear hl hd hgd hdk ew ee hlen hnk
      go_upto_region 7 with fail
      go_cut [8, 9] (fun s8 s9 wx => ∃ (q : Nat), s8 = .pointer (some ⟨q, 0, none⟩) ∧ s9 = .bool (stepW (x, y) s[k]).isSome ∧ wr.heap.size ≤ q ∧ Blk wx q 40 #[.int .i64 ((stepW (x, y) s[k]).getD (x, y)).1, .int .i64 ((stepW (x, y) s[k]).getD (x, y)).2] ∧ Below wr.heap.size wr wx)
      case first =>
        go_region_held3 (fun w' => w'.cell? ⟨g, off + k * 2, none⟩ = some (.int .i64 x) ∧ w'.cell? ⟨g, off + k * 2 + 1, none⟩ = some (.int .i64 y))
          ((go_split_ands; (try dsimp only); (repeat' (with_reducible apply And.intro)) <;> (repeat (first | with_reducible assumption | with_reducible apply keep_alloc | with_reducible apply keep_drew | with_reducible refine keep_below hb1 ?_ | ((with_reducible refine keep_set ?_ ?_); rotate_left; (simp <;> omega))))))
          (first | (go_at_call 53; refine (stepFrom_i _ _ _ _).mono ?_; rintro e w' ⟨rfl, hb1⟩; obtain ⟨hc1, hf1⟩ := bcell hb1))
        all_goals go_wp2_with fail
        all_goals go_meet
        all_goals first
          | exact ⟨_, rfl, rfl, by have := hb1.size; simpa using this, Blk.new _ _ _, (by (repeat (first | with_reducible exact Below.refl _ _ | with_reducible assumption | with_reducible apply bel_alloc | with_reducible apply bel_drew | with_reducible apply bel_drewN | ((with_reducible refine bel_set ?_ ?_); rotate_left; (simp <;> omega)) | (with_reducible refine bel_trans ?_ (by with_reducible assumption)))))⟩
          | exact ⟨_, rfl, rfl, Nat.le_refl _, blk_set2 hb1, (by (repeat (first | with_reducible exact Below.refl _ _ | with_reducible assumption | with_reducible apply bel_alloc | with_reducible apply bel_drew | with_reducible apply bel_drewN | ((with_reducible refine bel_set ?_ ?_); rotate_left; (simp <;> omega)) | (with_reducible refine bel_trans ?_ (by with_reducible assumption)))))⟩
      case rest =>
        obtain ⟨q, rfl, rfl, hq, hB, hb2⟩ := hcut
        have b1 := hB.cell 0
        have b2 := hB.cell 1
        simp at b1 b2
        clear hB
        cases hst : stepW (x, y) s[k] with
        | none =>
          have HF := Lib.hid (wayW_none.2 (end_none_of_take (HE.out.trans hst)))
          simp only [hst] at b1 b2 ⊢
          clear hst
          go_wp2
          go_ret2
          rw [HF.out]
          exact ⟨rfl, (by (repeat (first | with_reducible exact Below.refl _ _ | with_reducible assumption | with_reducible apply bel_alloc | with_reducible apply bel_drew | with_reducible apply bel_drewN | ((with_reducible refine bel_set ?_ ?_); rotate_left; (simp <;> omega)) | (with_reducible refine bel_trans ?_ (by with_reducible assumption)))))⟩
        | some d =>
          simp only [hst, Option.getD_some, Option.isSome_some] at b1 b2 ⊢
          have HS := Lib.hid hst
          clear hst
          go_wp2_with ((at_builtin; go_must (refine app_C _ rfl _ _ rfl w.heap.size _ _ _ l rfl ((own_keep hown hb2).alloc _) _ _ _ [(d.1, d.2)] rfl (rd_newC _ _ _ _) rfl (by omega) (by have := hb.size; have := hb2.size; simp; omega) ?_); intro A' c' w' hown' hg' hat'))
          have e1 : wayW (0, 0) (s.data.toList.take (k + 1)) = some (l ++ [d]) := by rw [HW.out, HS.out]; rfl
          have e2 : endW (0, 0) (s.data.toList.take (k + 1)) = some d := by rw [HE.out, HS.out]
          have e3 : (l ++ [d]).getD (k + 1) (0, 0) = d := by
            have := HN.out; have := HM.out
            rw [List.getD_eq_getElem?_getD, List.getElem?_append_right (by omega), show k + 1 - l.length = 0 from by omega]; rfl
          exact ⟨⟨k + 1, n + 1, c', A', l ++ [d], d, by omega, by go_num, rfl, by have := HM.out; omega, hown', e1, e2, e3, bel_app (bel_alloc (bel_trans hb hb2) _) hg' (fun g' hg1 => ((own_lt hown) g' hg1).1)⟩, by simp [intOf]; omega⟩
    · have hkk : k = s.size := by omega
      subst hkk
      rw [take_all] at hl hd
      have HL := Lib.hid hl
      clear hl hd hgd hlen hnk
      go_wp2
      go_ret2
      rw [HL.out]
      exact ⟨A, n, cap, rfl, hown, hb⟩

theorem wayOf_far (s : ByteArray) (m : Int) (w : World) (h0 : m < (s.size : Int)) (hm : s.size ≤ maxLen) :
    Calls Tryz.prog 30 #[.string s, .int .i64 m] w (WayP none w) := by
  unfold maxLen at hm
  go_enter Tryz.func30, Tryz.ntmps30
  go_wp2
  go_ret2
  exact ⟨rfl, (by (repeat (first | with_reducible exact Below.refl _ _ | with_reducible assumption | with_reducible apply bel_alloc | with_reducible apply bel_drew | with_reducible apply bel_drewN | ((with_reducible refine bel_set ?_ ?_); rotate_left; (simp <;> omega)) | (with_reducible refine bel_trans ?_ (by with_reducible assumption)))))⟩
end Go.Proofs.YtfnphchcgaebkaaGreat

/-
  DERIVED: THE SHELF's CONTRACTS AT THIS DUMP, IN PLAIN WORDS (tools/lay-plain.mjs out of 'TryzShelf.lean', which tools/lay-shelf.mjs wrote): THE SAME DECLARATIONS UNDER THE SAME NAMES: 'import', 'namespace', 'open', 'def', 'theorem' AND NOTHING ELSE: no command of the shelf's: FOR A HAND-IN. Each laying: the table of numbers ('.._ren') and one theorem, a field a fact of the dump's own or the kernel's comparison; each contract: ONE APPLICATION.
-/
namespace Go.Proofs
open Go.Shelf
def Tryz.laysGg6_ren : Go.Shelf.Ren := ⟨fun | 6 => 70 | 10 => 78 | 11 => 79 | 12 => 80 | 13 => 81 | 14 => 82 | 24 => 97 | 25 => 98 | 26 => 99 | 27 => 100 | 28 => 101 | 29 => 102 | 30 => 103 | 31 => 104 | 32 => 105 | 33 => 106 | 34 => 107 | 35 => 108 | 36 => 109 | 37 => 110 | 38 => 111 | 39 => 112 | n => n, fun | 20 => 20 | 26 => 69 | 35 => 77 | 0 => 0 | 37 => 79 | 3 => 3 | 41 => 70 | 44 => 85 | 49 => 93 | 51 => 95 | 4 => 4 | 54 => 98 | 53 => 97 | 58 => 102 | 5 => 5 | 9 => 9 | 60 => 104 | 64 => 108 | 66 => 110 | 67 => 111 | 17 => 17 | 32 => 74 | 33 => 75 | 82 => 126 | 12 => 12 | 75 => 119 | 76 => 120 | 77 => 121 | 78 => 122 | 79 => 123 | 80 => 124 | n => n, fun | n => n⟩
theorem Tryz.laysGg6 : Go.Proofs.LaysGg.n6 Tryz.prog Tryz.laysGg6_ren := {
  mixed := by kernel_rfl
  f6 := Tryz.func70.trans (congrArg some (by kernel_rfl))
  f10 := Tryz.func78.trans (congrArg some (by kernel_rfl))
  f11 := Tryz.func79.trans (congrArg some (by kernel_rfl))
  f12 := Tryz.func80.trans (congrArg some (by kernel_rfl))
  f13 := Tryz.func81.trans (congrArg some (by kernel_rfl))
  f14 := Tryz.func82.trans (congrArg some (by kernel_rfl))
  f24 := Tryz.func97.trans (congrArg some (by kernel_rfl))
  f25 := Tryz.func98.trans (congrArg some (by kernel_rfl))
  f26 := Tryz.func99.trans (congrArg some (by kernel_rfl))
  f27 := Tryz.func100.trans (congrArg some (by kernel_rfl))
  f28 := Tryz.func101.trans (congrArg some (by kernel_rfl))
  f29 := Tryz.func102.trans (congrArg some (by kernel_rfl))
  f30 := Tryz.func103.trans (congrArg some (by kernel_rfl))
  f31 := Tryz.func104.trans (congrArg some (by kernel_rfl))
  f32 := Tryz.func105.trans (congrArg some (by kernel_rfl))
  f33 := Tryz.func106.trans (congrArg some (by kernel_rfl))
  f34 := Tryz.func107.trans (congrArg some (by kernel_rfl))
  f35 := Tryz.func108.trans (congrArg some (by kernel_rfl))
  f36 := Tryz.func109.trans (congrArg some (by kernel_rfl))
  f37 := Tryz.func110.trans (congrArg some (by kernel_rfl))
  f38 := Tryz.func111.trans (congrArg some (by kernel_rfl))
  f39 := Tryz.func112.trans (congrArg some (by kernel_rfl))
  t0 := Tryz.underlying0
  a0 := Tryz.isAgg0
  z0 := Tryz.sizeOf0
  v0 := Tryz.zeroValue0
  i0 := by kernel_rfl
  t3 := Tryz.underlying3
  a3 := Tryz.isAgg3
  z3 := Tryz.sizeOf3
  v3 := Tryz.zeroValue3
  i3 := by kernel_rfl
  t4 := Tryz.underlying4
  a4 := Tryz.isAgg4
  z4 := Tryz.sizeOf4
  v4 := Tryz.zeroValue4
  i4 := by kernel_rfl
  t5 := Tryz.underlying5
  a5 := Tryz.isAgg5
  z5 := Tryz.sizeOf5
  v5 := Tryz.zeroValue5
  i5 := by kernel_rfl
  t9 := Tryz.underlying9
  a9 := Tryz.isAgg9
  z9 := Tryz.sizeOf9
  v9 := Tryz.zeroValue9
  i9 := by kernel_rfl
  t12 := Tryz.underlying12
  a12 := Tryz.isAgg12
  z12 := Tryz.sizeOf12
  v12 := Tryz.zeroValue12
  i12 := by kernel_rfl
  t17 := Tryz.underlying17
  a17 := Tryz.isAgg17
  z17 := Tryz.sizeOf17
  v17 := Tryz.zeroValue17
  i17 := by kernel_rfl
  t20 := Tryz.underlying20
  a20 := Tryz.isAgg20
  z20 := Tryz.sizeOf20
  v20 := Tryz.zeroValue20
  i20 := by kernel_rfl
  t26 := Tryz.underlying69
  a26 := Tryz.isAgg69
  z26 := Tryz.sizeOf69
  v26 := Tryz.zeroValue69
  i26 := by kernel_rfl
  t32 := Tryz.underlying74
  a32 := Tryz.isAgg74
  z32 := Tryz.sizeOf74
  v32 := Tryz.zeroValue74
  i32 := by kernel_rfl
  t33 := Tryz.underlying75
  a33 := Tryz.isAgg75
  z33 := Tryz.sizeOf75
  v33 := Tryz.zeroValue75
  i33 := by kernel_rfl
  t35 := Tryz.underlying77
  a35 := Tryz.isAgg77
  z35 := Tryz.sizeOf77
  v35 := Tryz.zeroValue77
  i35 := by kernel_rfl
  t37 := Tryz.underlying79
  a37 := Tryz.isAgg79
  z37 := Tryz.sizeOf79
  v37 := Tryz.zeroValue79
  i37 := by kernel_rfl
  t41 := Tryz.underlying70
  a41 := Tryz.isAgg70
  z41 := Tryz.sizeOf70
  v41 := Tryz.zeroValue70
  i41 := by kernel_rfl
  t44 := Tryz.underlying85
  a44 := Tryz.isAgg85
  z44 := Tryz.sizeOf85
  v44 := Tryz.zeroValue85
  i44 := by kernel_rfl
  t49 := Tryz.underlying93
  a49 := Tryz.isAgg93
  z49 := Tryz.sizeOf93
  v49 := Tryz.zeroValue93
  i49 := by kernel_rfl
  t51 := Tryz.underlying95
  a51 := Tryz.isAgg95
  z51 := Tryz.sizeOf95
  v51 := Tryz.zeroValue95
  i51 := by kernel_rfl
  t53 := Tryz.underlying97
  a53 := Tryz.isAgg97
  z53 := Tryz.sizeOf97
  v53 := Tryz.zeroValue97
  i53 := by kernel_rfl
  t54 := Tryz.underlying98
  a54 := Tryz.isAgg98
  z54 := Tryz.sizeOf98
  v54 := Tryz.zeroValue98
  i54 := by kernel_rfl
  t58 := Tryz.underlying102
  a58 := Tryz.isAgg102
  z58 := Tryz.sizeOf102
  v58 := Tryz.zeroValue102
  i58 := by kernel_rfl
  t60 := Tryz.underlying104
  a60 := Tryz.isAgg104
  z60 := Tryz.sizeOf104
  v60 := Tryz.zeroValue104
  i60 := by kernel_rfl
  t64 := Tryz.underlying108
  a64 := Tryz.isAgg108
  z64 := Tryz.sizeOf108
  v64 := Tryz.zeroValue108
  i64 := by kernel_rfl
  t66 := Tryz.underlying110
  a66 := Tryz.isAgg110
  z66 := Tryz.sizeOf110
  v66 := Tryz.zeroValue110
  i66 := by kernel_rfl
  t67 := Tryz.underlying111
  a67 := Tryz.isAgg111
  z67 := Tryz.sizeOf111
  v67 := Tryz.zeroValue111
  i67 := by kernel_rfl
  t75 := Tryz.underlying119
  a75 := Tryz.isAgg119
  z75 := Tryz.sizeOf119
  v75 := Tryz.zeroValue119
  i75 := by kernel_rfl
  t76 := Tryz.underlying120
  a76 := Tryz.isAgg120
  z76 := Tryz.sizeOf120
  v76 := Tryz.zeroValue120
  i76 := by kernel_rfl
  t77 := Tryz.underlying121
  a77 := Tryz.isAgg121
  z77 := Tryz.sizeOf121
  v77 := Tryz.zeroValue121
  i77 := by kernel_rfl
  t78 := Tryz.underlying122
  a78 := Tryz.isAgg122
  z78 := Tryz.sizeOf122
  v78 := Tryz.zeroValue122
  i78 := by kernel_rfl
  t79 := Tryz.underlying123
  a79 := Tryz.isAgg123
  z79 := Tryz.sizeOf123
  v79 := Tryz.zeroValue123
  i79 := by kernel_rfl
  t80 := Tryz.underlying124
  a80 := Tryz.isAgg124
  z80 := Tryz.sizeOf124
  v80 := Tryz.zeroValue124
  i80 := by kernel_rfl
  t82 := Tryz.underlying126
  a82 := Tryz.isAgg126
  z82 := Tryz.sizeOf126
  v82 := Tryz.zeroValue126
  i82 := by kernel_rfl }
end Go.Proofs

/- Cells put in order: the library's sort at twelve cells or fewer, with the program's own test. -/
namespace Go.Proofs.YtfnphchcgaebkaaGreat
open Go.RowKit Go.Shelf
set_option linter.unusedVariables false
attribute [local go_sem ↓] Go.wp_at_zero Go.wp_at_succ

theorem sto_default (l : List C) {i : Nat} (h : i < l.length) : l.getD i default = l[i] := getD_in l h
set_option maxHeartbeats 800000 in
/-- The test: does cell i come before cell j? -/
theorem lessCells (Bs base g n c : Nat) (l : List C) (i j : Nat) (w : World) (ho : w.ownsRow base 40 2 (.slice (some ⟨g, 0, none⟩) n c) n (vC l)) (hB : w.cell? ⟨Bs, 0, none⟩ = some (.slice (some ⟨g, 0, none⟩) n c)) (hi : i < n) (hj : j < n) (b : Bool)
    (hb : b = befC (l.getD i default) (l.getD j default)) : Calls Tryz.prog 71 #[.int .i64 (i : Int), .int .i64 (j : Int), .pointer (some ⟨Bs, 0, none⟩)] w (Ret w (.bool b)) := by
  have hl : l.length = n := by have := own_len ho; rw [vC_length] at this; omega
  have hg := (own_lt ho g rfl).2
  obtain ⟨g1, o1, e1, _, a1, a2⟩ := RdC.at_ (Rd.of_own ho) (show i < l.length by omega)
  obtain ⟨g2, o2, e2, _, b1, b2⟩ := RdC.at_ (Rd.of_own ho) (show j < l.length by omega)
  simp only [Option.some.injEq, Addr.mk.injEq, and_true] at e1 e2
  obtain ⟨rfl, rfl⟩ := e1
  obtain ⟨h1, rfl⟩ := e2
  rw [Nat.zero_add] at a1 a2 b1 b2
  rw [← h1] at b1 b2
  rw [sto_default l (by omega), sto_default l (by omega)] at hb
  obtain ⟨x, hx⟩ : ∃ x, l[i].1 = x := ⟨_, rfl⟩
  obtain ⟨y, hy⟩ : ∃ y, l[i].2 = y := ⟨_, rfl⟩
  obtain ⟨p, hp⟩ : ∃ p, l[j].1 = p := ⟨_, rfl⟩
  obtain ⟨q, hq⟩ : ∃ q, l[j].2 = q := ⟨_, rfl⟩
  rw [show l[i] = (x, y) from Prod.ext hx hy, show l[j] = (p, q) from Prod.ext hp hq] at hb
  rw [hx] at a1
  rw [hy] at a2
  rw [hp] at b1
  rw [hq] at b2
  have HV := Lib.hid hb.symm
  have hBl := World.block_lt_of_cell? w _ hB
  have hi0 : (0 : Int) ≤ (i : Int) := by omega
  have hi1 : (i : Int) < (n : Int) := by omega
  have hj0 : (0 : Int) ≤ (j : Int) := by omega
  have hj1 : (j : Int) < (n : Int) := by omega
  clear ho hx hy hp hq hb h1 hl
  go_enter Tryz.func71, Tryz.ntmps71
  go_wp2_with fail
  (refine wp_region_below (by kernel_rfl) (by kernel_rfl) ?_; (repeat (first | go_big_quiet_skip | (refine quietV (v := ?_) (by rfl) rfl (fun w' hbw => ?_) ?_; rotate_left; ((try dsimp only at hbw); have hbc := (bcell hbw).1; have hbf := (bcell hbw).2; go_simp; first | done | with_reducible rfl | exact callsBB (before_i x y p q _) HV.out hbw); simp only [List.setIfInBounds_toArray, List.set_cons_zero, List.set_cons_succ]))); refine wpQuiet_nil ?_; intro wq hbq)
  go_wp2_with fail
  go_ret
  exact ⟨rfl, hbq⟩
theorem own_put {w : World} {base g n c : Nat} {l : List C} (ho : w.ownsRow base 40 2 (.slice (some ⟨g, 0, none⟩) n c) n (vC l)) (k : Nat) (v : C) :
    (w.setCells g (0 + k * 2) [.int .i64 v.1, .int .i64 v.2]).ownsRow base 40 2 (.slice (some ⟨g, 0, none⟩) n c) n (vC (l.set k v)) := by
  have h := ((ho.stored (k * 2) (.int .i64 v.1)).1.stored (k * 2 + 1) (.int .i64 v.2)).1
  rw [vC_set_list] at h
  rw [Nat.zero_add]
  exact h
theorem grown_alloc1 {w w' : World} {o : Obj} {row : Option Nat} (h : (w.alloc o).grownBy w' row) : w.grownBy w' row :=
  ⟨h.os, h.tape, h.output, by have := h.size; simp at this; omega, fun k hk hne => (h.block k (by simp; omega) hne).trans (Below.heap_alloc w o k hk)⟩
theorem grown_of_alloc (w : World) (o : Obj) (r : Option Nat) : w.grownBy (w.alloc o) r := ⟨rfl, rfl, rfl, by simp, fun k hk _ => Below.heap_alloc w o k hk⟩
theorem grown_cells {a w : World} {g o : Nat} (h : a.grownBy w (some g)) (x y : Value) : a.grownBy (w.setCells g o [x, y]) (some g) := grown_set (grown_set h rfl x) rfl y
theorem infoCI : ∃ ie, Tryz.prog.info? 40 = some ie ∧ ie.size = 2 := by
  obtain ⟨i0, hi, _, hz1, _⟩ := info_parts infoC
  exact ⟨i0, hi, hz1⟩
theorem swapCells (sf : Nat) (gS : Bool) (hx : ∀ args W, (callFunc sf args).run Tryz.prog W = ((Extern.ReflectliteSwapper.swap gS args).run Tryz.prog W).andThen fun v w' => .ok (.value v) w') (hagg : ∀ w, (isAgg 40).run Tryz.prog w = .ok true w)
    (base g n c : Nat) (l : List C) (i j : Nat) (w : World) (ho : w.ownsRow base 40 2 (.slice (some ⟨g, 0, none⟩) n c) n (vC l)) (hi : i < n) (hj : j < n) :
    ∃ w', (callFunc sf #[.int .i64 (i : Int), .int .i64 (j : Int), .slice (some ⟨g, 0, none⟩) n c, typeHandle Tryz.prog 40]).run Tryz.prog w = .ok (.value (.tuple #[])) w' ∧
      w'.ownsRow base 40 2 (.slice (some ⟨g, 0, none⟩) n c) n (vC (swL l i j)) ∧ ∀ a, World.grownBy a w (some g) → World.grownBy a w' (some g) := by
  have hl : l.length = n := by have := own_len ho; rw [vC_length] at this; omega
  obtain ⟨ie, hie, hsz⟩ := infoCI
  have hcell : ∀ k (hk : k < n), ∀ u v, ([.int .i64 (l.getD k default).1, .int .i64 (l.getD k default).2] : List Value)[u]? = some v → w.cell? ⟨g, 0 + k * 2 + u, none⟩ = some v := by
    intro k hk u v h
    obtain ⟨g1, o1, e1, _, a1, a2⟩ := RdC.at_ (Rd.of_own ho) (show k < l.length by omega)
    simp only [Option.some.injEq, Addr.mk.injEq, and_true] at e1
    obtain ⟨rfl, rfl⟩ := e1
    rw [sto_default l (by omega)] at h
    match u, h with
    | 0, h => simp at h; rw [← h]; exact a1
    | 1, h => simp at h; rw [← h]; exact a2
    | u + 2, h => simp at h
  have hfro : ∀ o, w.frozen? ⟨g, o, none⟩ = false := fun o => ho.frozenAt o
  have hr := Lib.run_swap_cells (P := Tryz.prog) gS 40 ie hie hagg g 0 n c i j hi hj [.int .i64 (l.getD i default).1, .int .i64 (l.getD i default).2] [.int .i64 (l.getD j default).1, .int .i64 (l.getD j default).2]
    (by rw [hsz]; rfl) (by rw [hsz]; rfl) (by simp [Value.oneCell']) (by simp [Value.oneCell']) w (by rw [hsz]; exact hcell i hi) (by rw [hsz]; exact hcell j hj) (fun k _ => hfro _) (fun k _ => hfro _)
  rw [hsz] at hr
  refine ⟨_, ?_, own_put (own_put ho i (l.getD j default)) j (l.getD i default), fun a h => grown_cells (grown_cells h _ _) _ _⟩
  rw [hx, hr]
  rfl
/-- The row in order. -/
def SrtP (w : World) (base g n c : Nat) (l : List C) (e : Ending) (w' : World) : Prop :=
  e = .returned (.tuple #[]) ∧ ∃ l', l'.length = n ∧ (∀ x, x ∈ l' ↔ x ∈ l) ∧ l'.Pairwise (fun a b => befC b a = false) ∧ w'.ownsRow base 40 2 (.slice (some ⟨g, 0, none⟩) n c) n (vC l') ∧ w.grownBy w' (some g)
/-- What is asked of the exchange. -/
def Swaps (sf : Nat) (th : Value) (base g n c : Nat) : Prop := ∀ (w : World) (l : List C) (i j : Nat), w.ownsRow base 40 2 (.slice (some ⟨g, 0, none⟩) n c) n (vC l) → i < n → j < n →
  ∃ w', (callFunc sf #[.int .i64 (i : Int), .int .i64 (j : Int), .slice (some ⟨g, 0, none⟩) n c, th]).run Tryz.prog w = .ok (.value (.tuple #[])) w' ∧
      w'.ownsRow base 40 2 (.slice (some ⟨g, 0, none⟩) n c) n (vC (swL l i j)) ∧ ∀ a, World.grownBy a w (some g) → World.grownBy a w' (some g)
set_option maxHeartbeats 3200000 in
theorem insSort (sf : Nat) (th : Value) (Bs base g n c : Nat) (hsw : Swaps sf th base g n c) (l0 : List C) (w : World) (ho : w.ownsRow base 40 2 (.slice (some ⟨g, 0, none⟩) n c) n (vC l0)) (hB : w.cell? ⟨Bs, 0, none⟩ = some (.slice (some ⟨g, 0, none⟩) n c)) (hBg : Bs ≠ g) (hn : 1 ≤ n) (hn12 : n ≤ 12) :
    Calls Tryz.prog 99 #[.agg #[.func (.func 71) #[] #[.pointer (some ⟨Bs, 0, none⟩)], .func (.func sf) #[] #[.slice (some ⟨g, 0, none⟩) n c, th]], .int .i64 0, .int .i64 (n : Int)] w (SrtP w base g n c l0) := by
  have hl0 : l0.length = n := by have := own_len ho; rw [vC_length] at this; omega
  have hgl := (own_lt ho g rfl).2
  have HL := Lib.hid hl0
  have HO := Lib.hid ho
  have HBC := Lib.hid hB
  have HSW := Lib.hid hsw
  have HBB := Lib.hid (Blk.new w 85 #[.func (.func 71) #[] #[.pointer (some ⟨Bs, 0, none⟩)], .func (.func sf) #[] #[.slice (some ⟨g, 0, none⟩) n c, th]])
  clear hsw ho hB hl0
  go_enter Tryz.func99, Tryz.ntmps99
  go_wp2
  go_loopw [6] (fun e6 wr => ∃ (i : Nat) (l : List C), 1 ≤ i ∧ i ≤ n ∧ e6 = .int .i64 i ∧ l.length = n ∧ (∀ x, x ∈ l ↔ x ∈ l0) ∧ OrdTo befC l i ∧ wr.ownsRow base 40 2 (.slice (some ⟨g, 0, none⟩) n c) n (vC l) ∧ (w.alloc (.cells #[.func (.func 71) #[] #[.pointer (some ⟨Bs, 0, none⟩)], .func (.func sf) #[] #[.slice (some ⟨g, 0, none⟩) n c, th]] 85)).grownBy wr (some g)) (fun e6 _ => n - (intOf e6).toNat)
  case atStart => exact ⟨1, l0, by omega, by omega, by simp, HL.out, fun x => Iff.rfl, OrdTo.start l0, HO.out.alloc _, World.grownBy.refl _ _⟩
  case round =>
    obtain ⟨i, l, hi1, hin, rfl, hll, hmem, hord, hown, hg⟩ := hrel
    have HLL := Lib.hid hll
    have HM := Lib.hid hmem
    have HOR := Lib.hid hord
    have HOW := Lib.hid hown
    have HG := Lib.hid hg
    clear hll hmem hord hown hg
    by_cases hlt : i < n
    · have hiI : (i : Int) < (n : Int) := by omega
      go_wp2
      go_loopw [7] (fun e7 wr => ∃ (j : Nat) (l : List C), j ≤ i ∧ e7 = .int .i64 j ∧ l.length = n ∧ (∀ x, x ∈ l ↔ x ∈ l0) ∧ NearO befC l i j ∧ wr.ownsRow base 40 2 (.slice (some ⟨g, 0, none⟩) n c) n (vC l) ∧ (w.alloc (.cells #[.func (.func 71) #[] #[.pointer (some ⟨Bs, 0, none⟩)], .func (.func sf) #[] #[.slice (some ⟨g, 0, none⟩) n c, th]] 85)).grownBy wr (some g)) (fun e7 _ => (intOf e7).toNat)
      case atStart => exact ⟨i, l, Nat.le_refl _, rfl, HLL.out, HM.out, HOR.out.near, HOW.out, HG.out⟩
      case round =>
        clear HLL HM HOR HOW HG
        obtain ⟨j, l, hji, rfl, hll, hmem, hnear, hown, hg⟩ := hrel
        have HLL := Lib.hid hll
        have HM := Lib.hid hmem
        have HN := Lib.hid hnear
        have HOW := Lib.hid hown
        have HG := Lib.hid hg
        clear hll hmem hnear hown hg
        by_cases hj0 : 0 < j
        · obtain ⟨p, hp⟩ : ∃ p, j = p + 1 := ⟨j - 1, by omega⟩
          have hjI : (j : Int) > 0 := by omega
          have hpI : (j : Int) - 1 = (p : Int) := by omega
          have hpw : IntKind.i64.wrap (p : Int) = (p : Int) := Go.IntWalk.i64_in _ (by omega)
          have HP := Lib.hid hp
          have hBB := HBB.out.grown HG.out (fun e => by injection e with e; omega)
          have b0 : wr.cell? ⟨w.heap.size, 0, none⟩ = some (.func (.func 71) #[] #[.pointer (some ⟨Bs, 0, none⟩)]) := by simpa using hBB.cell 0
          have b1 : wr.cell? ⟨w.heap.size, 1, none⟩ = some (.func (.func sf) #[] #[.slice (some ⟨g, 0, none⟩) n c, th]) := by simpa using hBB.cell 1
          have bl := hBB.lt
          have HBC2 := Lib.hid (keep_grown HG.out (keep_alloc HBC.out) (by simpa using hBg))
          have HBW := Lib.hid hBB
          have hjn : j < n := by omega
          have hpn : p < n := by omega
          clear hBB hp
          cases hbf : befC (l.getD j default) (l.getD p default) with
          | true =>
            have HBF := Lib.hid hbf
            clear hbf
            go_wp2_with fail
            refine (lessCells Bs base g n c l j p _ HOW.out HBC2.out hjn hpn true HBF.out.symm).mono ?_
            rintro e w1 ⟨rfl, hb1⟩
            have hBB1 := HBW.out.below hb1
            have c1 : w1.cell? ⟨w.heap.size, 1, none⟩ = some (.func (.func sf) #[] #[.slice (some ⟨g, 0, none⟩) n c, th]) := by simpa using hBB1.cell 1
            have cl := hBB1.lt
            obtain ⟨w2, hrun, ho2, hg2⟩ := HSW.out w1 l j p (own_keep HOW.out hb1) hjn hpn
            have HO2 := Lib.hid ho2
            have HG2 := Lib.hid (hg2 _ (grown_below HG.out hb1))
            have HN2 : Hid (NearO befC (swL l j p) i p) := by
              have h1 := HN.out
              rw [HP.out] at h1 ⊢
              exact h1.step befC_sto (by omega) (by rw [HLL.out]; exact hlt) (by rw [← HP.out]; exact HBF.out)
            clear hBB1 ho2 hg2 b0 b1 bl
            go_wp2_with fail
            exact ⟨⟨p, swL l j p, by omega, rfl, by rw [swL_len]; exact HLL.out, fun x => (swL_mem l (by rw [HLL.out]; exact hjn) (by rw [HLL.out]; exact hpn) x).trans (HM.out x), HN2.out, HO2.out, HG2.out⟩, by simp [intOf]; omega⟩
          | false =>
            have HBF := Lib.hid hbf
            clear hbf
            go_wp2_with fail
            refine (lessCells Bs base g n c l j p _ HOW.out HBC2.out hjn hpn false HBF.out.symm).mono ?_
            rintro e w1 ⟨rfl, hb1⟩
            have HO2 : Hid (OrdTo befC l (i + 1)) := by
              have h1 := HN.out
              rw [HP.out] at h1
              exact h1.stop befC_sto (by have := HP.out; omega) (by rw [← HP.out]; exact HBF.out)
            go_wp2_with fail
            exact ⟨⟨i + 1, l, by omega, by omega, by go_num, HLL.out, HM.out, HO2.out, own_keep HOW.out hb1, grown_below HG.out hb1⟩, by simp [intOf]; omega⟩
        · obtain rfl : j = 0 := by omega
          have HO2 := Lib.hid (HN.out.zero)
          clear hj0
          go_wp2_with fail
          exact ⟨⟨i + 1, l, by omega, by omega, by go_num, HLL.out, HM.out, HO2.out, HOW.out, HG.out⟩, by simp [intOf]; omega⟩
    · obtain rfl : i = n := by omega
      have hiI : ¬ (i : Int) < (i : Int) := by omega
      go_wp2
      go_end0
      exact ⟨rfl, l, HLL.out, HM.out, OrdTo.done (by rw [HLL.out]; exact HOR.out), HOW.out, grown_alloc1 HG.out⟩
/-- One cell or none: nothing is asked. -/
theorem insSort1 (S : Value) (F : Value) (base g n c : Nat) (l0 : List C) (w : World) (ho : w.ownsRow base 40 2 (.slice (some ⟨g, 0, none⟩) n c) n (vC l0)) (hn : n ≤ 1) :
    Calls Tryz.prog 99 #[.agg #[F, S], .int .i64 0, .int .i64 (n : Int)] w (SrtP w base g n c l0) := by
  have hl0 : l0.length = n := by have := own_len ho; rw [vC_length] at this; omega
  have HL := Lib.hid hl0
  have HO := Lib.hid ho
  have hnI : ¬ (1 : Int) < (n : Int) := by omega
  clear ho hl0
  go_enter Tryz.func99, Tryz.ntmps99
  go_wp2
  go_loopw [6] (fun e6 wr => e6 = .int .i64 1 ∧ wr = w.alloc (.cells #[F, S] 85)) (fun e6 _ => 0)
  case atStart => exact ⟨by simp, rfl⟩
  case round =>
    obtain ⟨rfl, rfl⟩ := hrel
    go_wp2
    go_end0
    refine ⟨rfl, l0, HL.out, fun x => Iff.rfl, ?_, HO.out.alloc _, grown_of_alloc _ _ _⟩
    rcases (by omega : n = 0 ∨ n = 1) with rfl | rfl
    · rw [List.eq_nil_of_length_eq_zero HL.out]; exact List.Pairwise.nil
    · obtain ⟨a, ha⟩ := List.length_eq_one_iff.1 HL.out
      rw [ha]; exact List.pairwise_singleton _ _
theorem pdqSmall (D : Value) (F S : Value) (hD : D = .agg #[F, S]) (base g n c : Nat) (lim : Int) (l0 : List C) (w : World) (hn12 : n ≤ 12)
    (hi : ∀ w', Below w.heap.size w w' → Calls Tryz.prog 99 #[.agg #[F, S], .int .i64 0, .int .i64 (n : Int)] w' (SrtP w' base g n c l0)) :
    Calls Tryz.prog 82 #[D, .int .i64 0, .int .i64 (n : Int), .int .i64 lim] w (SrtP w base g n c l0) := by
  subst hD
  have HI := Lib.hid hi
  have hnI : (n : Int) ≤ 12 := by omega
  clear hi
  go_enter Tryz.func82, Tryz.ntmps82
  go_wp2
  refine wp_loop_rounds 1 ?_
  rw [rounds_succ]
  go_wp2_with fail
  refine (HI.out _ (by (repeat (first | with_reducible exact Below.refl _ _ | with_reducible assumption | with_reducible apply bel_alloc | with_reducible apply bel_drew | with_reducible apply bel_drewN | ((with_reducible refine bel_set ?_ ?_); rotate_left; (simp <;> omega)) | (with_reducible refine bel_trans ?_ (by with_reducible assumption)))))).mono ?_
  rintro e w1 ⟨rfl, l', h1, h2, h3, h4, h5⟩
  have HR : Hid (SrtP w base g n c l0 (.returned (.tuple #[])) w1) := ⟨rfl, l', h1, h2, h3, h4, grown_alloc1 h5⟩
  clear h1 h2 h3 h4 h5
  go_wp2_with fail
  (try simp only [Exit.inBlock, Exit.then])
  refine bodyPost_ret (results_none rfl _ _ _) rfl ?_
  exact HR.out
noncomputable def tiS : TypeInfo := (Tryz.prog.info? 24).get (by kernel_rfl)
noncomputable def tiC : TypeInfo := (Tryz.prog.info? 40).get (by kernel_rfl)
theorem swapK2 (n : Nat) (h2 : 2 ≤ n) : Lib.swapperK n tiC 25 = 9 := by
  have a : tiC.hasPointers = false := by kernel_rfl
  have b : tiC.bytes = 16 := by kernel_rfl
  have c : (n == 0) = false := by simp; omega
  have d : (n == 1) = false := by simp; omega
  simp [Lib.swapperK, a, b, c, d]
set_option maxRecDepth 100000 in
/-- The library's sort of a slice of one to twelve cells, with the program's test. -/
theorem sortCells (Bs base g n c : Nat) (l0 : List C) (w : World) (ho : w.ownsRow base 40 2 (.slice (some ⟨g, 0, none⟩) n c) n (vC l0)) (hB : w.cell? ⟨Bs, 0, none⟩ = some (.slice (some ⟨g, 0, none⟩) n c)) (hBg : Bs ≠ g) (hn : 1 ≤ n) (hn12 : n ≤ 12) :
    Calls Tryz.prog 70 #[.iface 24 (.slice (some ⟨g, 0, none⟩) n c), .func (.func 71) #[] #[.pointer (some ⟨Bs, 0, none⟩)]] w (SrtP w base g n c l0) := by
  have hagg : ∀ w, (isAgg 40).run Tryz.prog w = .ok true w := fun _ => by kernel_rfl
  have fin : ∀ (W : World), W = sliceWorld Tryz.prog Tryz.laysGg6_ren 24 (some ⟨g, 0, none⟩) n c w → W.ownsRow base 40 2 (.slice (some ⟨g, 0, none⟩) n c) n (vC l0) ∧ W.cell? ⟨Bs, 0, none⟩ = some (.slice (some ⟨g, 0, none⟩) n c) ∧
      ∀ w', W.grownBy w' (some g) → w.grownBy w' (some g) := by
    intro W hW
    subst hW
    unfold sliceWorld
    exact ⟨(ho.alloc _).alloc _, keep_alloc (keep_alloc hB), fun w' h => grown_alloc1 (grown_alloc1 h)⟩
  obtain ⟨h1, h2, h3⟩ := fin _ rfl
  have hpost : ∀ e w', SrtP (sliceWorld Tryz.prog Tryz.laysGg6_ren 24 (some ⟨g, 0, none⟩) n c w) base g n c l0 e w' → e = .returned (.tuple #[]) ∧ (∃ l', l'.length = n ∧ (∀ x, x ∈ l' ↔ x ∈ l0) ∧ l'.Pairwise (fun a b => befC b a = false) ∧ w'.ownsRow base 40 2 (.slice (some ⟨g, 0, none⟩) n c) n (vC l') ∧ w.grownBy w' (some g)) :=
    fun e w' ⟨he, l', a1, a2, a3, a4, a5⟩ => ⟨he, l', a1, a2, a3, a4, h3 _ a5⟩
  by_cases hn2 : 2 ≤ n
  · refine (Any.sort_Slice_of_pdq Tryz.laysGg6 24 40 tiS tiC (by kernel_rfl) (by kernel_rfl) (by kernel_rfl) (by kernel_rfl) 25 (fun _ => by kernel_rfl) (some ⟨g, 0, none⟩) n c (by omega) 96 (by rw [swapK2 n hn2]; kernel_rfl) (.func 71) #[] #[.pointer (some ⟨Bs, 0, none⟩)] w
      (fun w' => ∃ l', l'.length = n ∧ (∀ x, x ∈ l' ↔ x ∈ l0) ∧ l'.Pairwise (fun a b => befC b a = false) ∧ w'.ownsRow base 40 2 (.slice (some ⟨g, 0, none⟩) n c) n (vC l') ∧ w.grownBy w' (some g)) ?_).mono (fun e w' h => ⟨h.1, h.2⟩)
    have hbd : sliceBound Tryz.prog 40 tiC 25 (some ⟨g, 0, none⟩) n c = #[.slice (some ⟨g, 0, none⟩) n c, typeHandle Tryz.prog 40] := by
      unfold sliceBound
      rw [swapK2 n hn2]
      rfl
    rw [hbd]
    have hx : ∀ args W, (callFunc 96 args).run Tryz.prog W = ((Extern.ReflectliteSwapper.swap false args).run Tryz.prog W).andThen fun v w' => .ok (.value v) w' := fun args W => run_callFunc_extern Tryz.func96 (by kernel_rfl) (by kernel_rfl) (by kernel_rfl) (e := Extern.ReflectliteSwapper.swap false) (by kernel_rfl) args W
    refine (pdqSmall _ _ _ rfl base g n c _ l0 _ hn12 fun w' hb => ?_).mono hpost
    exact insSort _ _ Bs base g n c (fun w l i j a b c => swapCells _ false hx hagg base g n _ l i j w a b c) l0 w' (own_keep h1 hb) ((hb.cell (World.block_lt_of_cell? _ _ h2)).trans h2) hBg hn hn12
  · have hn1 : n = 1 := by omega
    subst hn1
    refine (Any.sort_Slice_of_pdq Tryz.laysGg6 24 40 tiS tiC (by kernel_rfl) (by kernel_rfl) (by kernel_rfl) (by kernel_rfl) 25 (fun _ => by kernel_rfl) (some ⟨g, 0, none⟩) 1 c (by omega) 89 (by kernel_rfl) (.func 71) #[] #[.pointer (some ⟨Bs, 0, none⟩)] w
      (fun w' => ∃ l', l'.length = 1 ∧ (∀ x, x ∈ l' ↔ x ∈ l0) ∧ l'.Pairwise (fun a b => befC b a = false) ∧ w'.ownsRow base 40 2 (.slice (some ⟨g, 0, none⟩) 1 c) 1 (vC l') ∧ w.grownBy w' (some g)) ?_).mono (fun e w' h => ⟨h.1, h.2⟩)
    refine (pdqSmall _ _ _ rfl base g 1 c _ l0 _ (by omega) fun w' hb => ?_).mono hpost
    exact insSort1 _ _ base g 1 c l0 w' (own_keep h1 hb) (Nat.le_refl _)
end Go.Proofs.YtfnphchcgaebkaaGreat

/- Cells put in order, each once: the program, at one to twelve cells. -/
namespace Go.Proofs.YtfnphchcgaebkaaGreat
open Go.RowKit
set_option linter.unusedVariables false
attribute [local go_sem ↓] Go.wp_at_zero Go.wp_at_succ

theorem keepG_C (l : List C) (k : Nat) : keepG l k = (k == 0 || !decide (l.getD (k - 1) default = l.getD k default)) := by
  unfold keepG
  generalize l.getD (k - 1) default = a
  generalize l.getD k default = b
  congr 1
theorem ded_fin {l xs : List C} (hp : l.Pairwise (fun a b => befC b a = false)) (hm : ∀ x, x ∈ l ↔ x ∈ xs) : dedG l l.length = sortC xs := dedG_eq befC_sto hp hm
set_option maxRecDepth 100000 in
set_option maxHeartbeats 3200000 in
theorem SortCells_i (A : Option Addr) (n c : Nat) (xs : List C) (w : World) (hr : Rd w A (vC xs)) (hl : xs.length = n) (hn : 1 ≤ n) (hn12 : n ≤ 12) :
    Calls Tryz.prog 54 #[.slice A n c] w (RetS w 40 2 (vC (sortC xs))) := by
  have HL := Lib.hid hl
  have HR := Lib.hid hr
  clear hl hr
  go_enter Tryz.func54, Tryz.ntmps54
  go_wp2_with (at_builtin; go_must (refine app_C _ rfl _ _ rfl w.heap.size none 0 0 [] rfl (own_nil _ _ _ _) _ _ _ xs rfl HR.out HL.out (by omega) (by omega) ?_); intro D c2 w1 ho1 hg1 hat1; simp only [Nat.zero_add, List.nil_append] at ho1; obtain ⟨g, hD, hbg, hgl⟩ := own_at ho1 (by omega); subst hD; have HO1 := Lib.hid ho1; have HB1 := Lib.hid (bel_app (Below.refl w.heap.size w) hg1 (fun g h => by cases h)); have HBX := Lib.hid (Blk.new w1 24 #[.slice (some ⟨g, 0, none⟩) n c2]); clear ho1 hg1 hat1)
  have hwl := HB1.out.size
  refine (sortCells w1.heap.size w.heap.size g n c2 xs _ (HO1.out.alloc _) (HBX.out.cell 0) (by omega) hn hn12).mono ?_
  rintro e w2 ⟨rfl, l, hll, hlm, hlp, ho2, hg2⟩
  have hb2 : Below w.heap.size w w2 := bel_app (A := some ⟨g, 0, none⟩) (bel_alloc HB1.out _) hg2 (fun k e => by simp only [ob, Option.map_some, Option.some.injEq] at e; omega)
  have HV : Hid (dedG l n = sortC xs) := by have := ded_fin hlp hlm; rwa [hll] at this
  have hBX := HBX.out.grown hg2 (fun e => by injection e with e; omega)
  have b0 : w2.cell? ⟨w1.heap.size, 0, none⟩ = some (.slice (some ⟨g, 0, none⟩) n c2) := by simpa using hBX.cell 0
  have bl := hBX.lt
  have HBY := Lib.hid hBX
  have HLL := Lib.hid hll
  have HRL := Lib.hid (Rd.of_own ho2)
  have hg3 := (own_lt ho2 g rfl).2
  have hsz2 := hb2.size
  clear hll hlm hlp ho2 hg2 hBX
  go_wp2_with fail
  go_loopw [15, 4] (fun e15 e4 wr => ∃ (k q cq : Nat) (D : Option Addr), k ≤ n ∧ q ≤ k ∧ e15 = .int .i64 k ∧ e4 = .slice D q cq ∧ wr.ownsRow w2.heap.size 40 2 (.slice D q cq) q (vC (dedG l k)) ∧ Below w2.heap.size w2 wr) (fun e15 _ _ => n - (intOf e15).toNat)
  case atStart => exact ⟨0, 0, 0, none, by omega, by omega, rfl, rfl, own_nil _ _ _ _, Below.refl _ _⟩
  case round =>
    obtain ⟨k, q, cq, D, hk, hq, rfl, rfl, hown, hb⟩ := hrel
    by_cases hlt : k < n
    · have hkl : k < l.length := by rw [HLL.out]; exact hlt
      have hrw := HRL.out.below hb
      obtain ⟨g', off, he, _, a1, a2⟩ := RdC.at_ hrw hkl
      simp only [Option.some.injEq, Addr.mk.injEq, and_true] at he
      obtain ⟨rfl, rfl⟩ := he
      rw [Nat.zero_add] at a1 a2
      have hgd : l.getD k default = l[k] := getD_in l hkl
      have hst : dedG l (k + 1) = dedG l k ++ (if keepG l k then [l.getD k default] else []) := rfl
      obtain ⟨x, hx⟩ : ∃ x, l[k].1 = x := ⟨_, rfl⟩
      obtain ⟨y, hy⟩ : ∃ y, l[k].2 = y := ⟨_, rfl⟩
      have hxy : l[k] = (x, y) := Prod.ext hx hy
      rw [hx] at a1
      rw [hy] at a2
      rw [hxy] at hgd
      rw [hgd] at hst
      have HO := Lib.hid hown
      have hbs := hb.size
      have KEEP : Hid (keepG l k = true → dedG l (k + 1) = dedG l k ++ [(x, y)]) := fun h => by rw [hst, h]; rfl
      have SKIP : Hid (keepG l k = false → dedG l (k + 1) = dedG l k) := fun h => by rw [hst, h]; simp
      have hka : keepG l k = (k == 0 || !decide (l.getD (k - 1) default = (x, y))) := by rw [keepG_C, hgd]
      have HKA := Lib.hid hka
      have hglw : g < wr.heap.size := Nat.lt_of_lt_of_le hg3 hb.size
      have hB := HBY.out.below hb
      have d0 : wr.cell? ⟨w1.heap.size, 0, none⟩ = some (.slice (some ⟨g, 0, none⟩) n c2) := by simpa using hB.cell 0
      have dl := hB.lt
      have hk1 : (0 : Int) ≤ (k : Int) := by omega
      have hk2 : (k : Int) < (n : Int) := by omega
      clear hx hy hxy hst hgd hka hown hB b0 bl
      by_cases hk0 : k = 0
      · have e0 : ((k : Int) == 0) = true := by simp [hk0]
        have HN := Lib.hid (KEEP.out (by rw [HKA.out, hk0]; rfl))
        clear KEEP SKIP HKA hk0
        go_wp2_with fail
        (refine wp_region_below (by kernel_rfl) (by kernel_rfl) ?_; (repeat (first | go_big_quiet_skip | (refine quietV (v := ?_) (by rfl) rfl (fun w' hbw => ?_) ?_; rotate_left; ((try dsimp only at hbw); have hbc := (bcell hbw).1; have hbf := (bcell hbw).2; go_simp; first | done | with_reducible rfl | fail); simp only [List.setIfInBounds_toArray, List.set_cons_zero, List.set_cons_succ]))); refine wpQuiet_nil ?_; intro wq hbq)
        have hbz := hbq.size
        simp only [World.size_alloc] at hbz
        have hCB := (Blk.new wr 40 #[.int .i64 x, .int .i64 y]).below hbq
        have z0 : wq.cell? ⟨wr.heap.size, 0, none⟩ = some (.int .i64 x) := by simpa using hCB.cell 0
        have z1 : wq.cell? ⟨wr.heap.size, 1, none⟩ = some (.int .i64 y) := by simpa using hCB.cell 1
        have zl := hCB.lt
        clear hCB
        go_wp2_with (at_builtin; go_must (refine app_C _ rfl _ _ rfl w2.heap.size _ _ _ _ rfl (own_keep (own_keep (HO.out.alloc _) hbq) (bel_alloc (Below.refl _ _) _)) _ _ _ [(x, y)] rfl (rd_newC _ _ _ _) rfl (by omega) (by simp; omega) ?_); intro D2 cp2 w8 ho8 hg8 hat8; have HO8 := Lib.hid ho8; have HG8 := Lib.hid hg8; clear ho8 hg8 hat8)
        exact ⟨⟨k + 1, q + 1, cp2, D2, by omega, by omega, by go_num, rfl, by rw [HN.out]; exact HO8.out, bel_app (bel_alloc (bel_trans (bel_alloc hb _) hbq) _) HG8.out (fun g' hg1 => ((own_lt HO.out) g' hg1).1)⟩, by simp [intOf]; omega⟩
      · obtain ⟨j, hjk⟩ : ∃ j, k = j + 1 := ⟨k - 1, by omega⟩
        have hjl : j < l.length := by omega
        obtain ⟨g', off', he, _, c1, c3⟩ := RdC.at_ hrw hjl
        simp only [Option.some.injEq, Addr.mk.injEq, and_true] at he
        obtain ⟨rfl, rfl⟩ := he
        rw [Nat.zero_add] at c1 c3
        obtain ⟨p, hp⟩ : ∃ p, l[j].1 = p := ⟨_, rfl⟩
        obtain ⟨r, hr⟩ : ∃ r, l[j].2 = r := ⟨_, rfl⟩
        have hgj : l.getD (k - 1) default = (p, r) := by rw [hjk, Nat.add_sub_cancel, getD_in l hjl]; exact Prod.ext hp hr
        rw [hp] at c1
        rw [hr] at c3
        have e0 : ((k : Int) == 0) = false := by simp; omega
        have hj1 : (k : Int) - 1 = (j : Int) := by omega
        have hj0 : (0 : Int) ≤ (j : Int) := by omega
        have hjw : IntKind.i64.wrap (j : Int) = (j : Int) := Go.IntWalk.i64_in _ (by omega)
        have hjm : (j : Int) < (n : Int) := by omega
        have hkk : (k == 0) = false := by simpa using hk0
        have hkz : ¬ k = 0 := hk0
        have HKK := Lib.hid hkk
        have HGJ := Lib.hid hgj
        clear hp hr hgj hjk hkk hk0
        by_cases hsame : p = x ∧ r = y
        · obtain ⟨rfl, rfl⟩ := hsame
          have HN := Lib.hid (SKIP.out (by rw [HKA.out, HKK.out, HGJ.out]; simp))
          have hne : (p == p && r == r) = true := by simp
          clear KEEP SKIP HKA
          go_wp2_with fail
          (refine wp_region_below (by kernel_rfl) (by kernel_rfl) ?_; (repeat (first | go_big_quiet_skip | (refine quietV (v := ?_) (by rfl) rfl (fun w' hbw => ?_) ?_; rotate_left; ((try dsimp only at hbw); have hbc := (bcell hbw).1; have hbf := (bcell hbw).2; go_simp; first | done | with_reducible rfl | fail); simp only [List.setIfInBounds_toArray, List.set_cons_zero, List.set_cons_succ]))); refine wpQuiet_nil ?_; intro wq hbq)
          go_wp2_with fail
          exact ⟨⟨k + 1, q, cq, D, by omega, by omega, by go_num, rfl, by rw [HN.out]; exact own_keep (HO.out.alloc _) hbq, bel_trans (bel_alloc hb _) hbq⟩, by simp [intOf]; omega⟩
        · have hne : (p == x && r == y) = false := by
            rw [Bool.and_eq_false_iff, beq_eq_false_iff_ne, beq_eq_false_iff_ne]
            by_cases h1 : p = x
            · exact .inr fun h2 => hsame ⟨h1, h2⟩
            · exact .inl h1
          have HN := Lib.hid (KEEP.out (by
            rw [HKA.out, HKK.out, HGJ.out, Bool.false_or, decide_eq_false (fun e => hsame (by injection e with e1 e2; exact ⟨e1, e2⟩))]
            rfl))
          clear KEEP SKIP HKA hsame
          go_wp2_with fail
          (refine wp_region_below (by kernel_rfl) (by kernel_rfl) ?_; (repeat (first | go_big_quiet_skip | (refine quietV (v := ?_) (by rfl) rfl (fun w' hbw => ?_) ?_; rotate_left; ((try dsimp only at hbw); have hbc := (bcell hbw).1; have hbf := (bcell hbw).2; go_simp; first | done | with_reducible rfl | fail); simp only [List.setIfInBounds_toArray, List.set_cons_zero, List.set_cons_succ]))); refine wpQuiet_nil ?_; intro wq hbq)
          have hbz := hbq.size
          simp only [World.size_alloc] at hbz
          have hCB := (Blk.new wr 40 #[.int .i64 x, .int .i64 y]).below hbq
          have z0 : wq.cell? ⟨wr.heap.size, 0, none⟩ = some (.int .i64 x) := by simpa using hCB.cell 0
          have z1 : wq.cell? ⟨wr.heap.size, 1, none⟩ = some (.int .i64 y) := by simpa using hCB.cell 1
          have zl := hCB.lt
          clear hCB
          go_wp2_with (at_builtin; go_must (refine app_C _ rfl _ _ rfl w2.heap.size _ _ _ _ rfl (own_keep (own_keep (HO.out.alloc _) hbq) (bel_alloc (Below.refl _ _) _)) _ _ _ [(x, y)] rfl (rd_newC _ _ _ _) rfl (by omega) (by simp; omega) ?_); intro D2 cp2 w8 ho8 hg8 hat8; have HO8 := Lib.hid ho8; have HG8 := Lib.hid hg8; clear ho8 hg8 hat8)
          exact ⟨⟨k + 1, q + 1, cp2, D2, by omega, by omega, by go_num, rfl, by rw [HN.out]; exact HO8.out, bel_app (bel_alloc (bel_trans (bel_alloc hb _) hbq) _) HG8.out (fun g' hg1 => ((own_lt HO.out) g' hg1).1)⟩, by simp [intOf]; omega⟩
    · obtain rfl : k = n := by omega
      rw [HV.out] at hown
      have HO := Lib.hid (own_base hown hsz2)
      have hk1 : ¬ (k : Int) < (k : Int) := by omega
      clear hown
      go_wp2
      go_ret
      exact ⟨_, _, _, rfl, HO.out, bel_trans hb2 hb⟩
end Go.Proofs.YtfnphchcgaebkaaGreat

/- Cells moved, moved to their corner, the neighbours of a cell: the program. -/
namespace Go.Proofs.YtfnphchcgaebkaaGreat
open Go.RowKit
set_option linter.unusedVariables false
attribute [local go_sem ↓] Go.wp_at_zero Go.wp_at_succ

theorem copyCells_i2 (A : Option Addr) (n c : Nat) (xs : List C) (w : World) (hr : Rd w A (vC xs)) (hl : xs.length = n) (hn : n ≤ 1048576) :
    Calls Tryz.prog 33 #[.slice A n c] w (RetS w 40 2 (vC xs)) := by
  have HL := Lib.hid hl
  clear hl
  go_enter Tryz.func33, Tryz.ntmps33
  go_wp2_with (at_builtin; go_must (refine app_C _ rfl _ _ rfl w.heap.size none 0 0 [] rfl (own_nil _ _ _ _) _ _ _ xs rfl hr HL.out (by omega) (by omega) ?_); intro A' c' w' hown' hg' hat'; simp only [Nat.zero_add, List.nil_append] at hown'; have HO := Lib.hid hown'; have HB := Lib.hid (bel_app (Below.refl w.heap.size w) hg' (fun g h => by cases h)); clear hown' hg' hat')
  go_ret
  exact ⟨_, _, _, rfl, HO.out, HB.out⟩
set_option maxHeartbeats 800000 in
theorem moved_i (A : Option Addr) (n c : Nat) (xs : List C) (x y : Int) (w : World) (hr : Rd w A (vC xs)) (hl : xs.length = n) (hn : n ≤ 1048576) (hs : ∀ d ∈ xs, small d) (hx : -1000 ≤ x ∧ x ≤ 1000) (hy : -1000 ≤ y ∧ y ≤ 1000) :
    Calls Tryz.prog 55 #[.slice A n c, .int .i64 x, .int .i64 y] w (RetS w 40 2 (vC (mv xs x y))) := by
  have HL := Lib.hid hl
  have HS := Lib.hid hs
  obtain ⟨hx1, hx2⟩ := hx
  obtain ⟨hy1, hy2⟩ := hy
  clear hl hs
  go_enter Tryz.func55, Tryz.ntmps55
  go_wp2
  go_loopw [12, 7] (fun e12 e7 wr => ∃ (k cq : Nat) (D : Option Addr), k ≤ n ∧ e12 = .int .i64 k ∧ e7 = .slice D k cq ∧ wr.ownsRow w.heap.size 40 2 (.slice D k cq) k (vC (mv (xs.take k) x y)) ∧ Below w.heap.size w wr) (fun e12 _ _ => n - (intOf e12).toNat)
  case atStart => exact ⟨0, 0, none, Nat.zero_le _, rfl, rfl, own_nil _ _ _ _, Below.refl _ _⟩
  case round =>
    obtain ⟨k, cq, D, hk, rfl, rfl, hown, hb⟩ := hrel
    by_cases hlt : k < n
    · have hkl : k < xs.length := by rw [HL.out]; exact hlt
      have hk0 : (0 : Int) ≤ (k : Int) := by omega
      have hk1 : (k : Int) < (n : Int) := by omega
      obtain ⟨g, off, rfl, hg, d1, d2⟩ := RdC.at_ (hr.below hb) hkl
      have hst := mv_take xs x y k hkl
      have hsm := HS.out _ (List.getElem_mem hkl)
      obtain ⟨p, hp⟩ : ∃ p, xs[k].1 = p := ⟨_, rfl⟩
      obtain ⟨q, hq⟩ : ∃ q, xs[k].2 = q := ⟨_, rfl⟩
      unfold small at hsm
      rw [hp, hq] at hsm hst
      rw [hp] at d1
      rw [hq] at d2
      have e1 : IntKind.i64.wrap (p + x) = p + x := Go.IntWalk.i64_in _ (by omega)
      have e2 : IntKind.i64.wrap (q + y) = q + y := Go.IntWalk.i64_in _ (by omega)
      have HST := Lib.hid hst
      have HO := Lib.hid hown
      have hbs := hb.size
      have HRN : Hid (Rd ((wr.alloc (.cells #[.int .i64 p, .int .i64 q] 40)).alloc (.cells #[.int .i64 (p + x), .int .i64 (q + y)] 40)) (some ⟨wr.heap.size + 1, 0, none⟩) (vC [(p + x, q + y)])) := by
        have := rd_newC (wr.alloc (.cells #[.int .i64 p, .int .i64 q] 40)) 40 (p + x) (q + y)
        rw [show (wr.alloc (.cells #[.int .i64 p, .int .i64 q] 40)).heap.size = wr.heap.size + 1 from by simp] at this
        exact this
      clear hst hown hp hq hsm
      go_wp2_with (at_builtin; go_must (refine app_C _ rfl _ _ rfl w.heap.size _ _ _ _ rfl ((HO.out.alloc _).alloc _) _ _ _ [(p + x, q + y)] rfl HRN.out rfl (by omega) (by simp; omega) ?_); intro D2 cp2 w8 ho8 hg8 hat8; have HO8 := Lib.hid ho8; have HG8 := Lib.hid hg8; clear ho8 hg8 hat8)
      exact ⟨⟨k + 1, cp2, D2, by omega, by go_num, rfl, by rw [HST.out]; exact HO8.out, bel_app (bel_alloc (bel_alloc hb _) _) HG8.out (fun g' hg1 => ((own_lt HO.out) g' hg1).1)⟩, by simp [intOf]; omega⟩
    · obtain rfl : k = n := by omega
      rw [List.take_of_length_le (by rw [HL.out]; omega)] at hown
      have HO := Lib.hid hown
      have hk1 : ¬ (k : Int) < (k : Int) := by omega
      clear hown
      go_wp2
      go_ret
      exact ⟨_, _, _, rfl, HO.out, hb⟩
set_option maxHeartbeats 1600000 in
theorem corner_i (A : Option Addr) (n c : Nat) (xs : List C) (w : World) (hr : Rd w A (vC xs)) (hl : xs.length = n) (hn1 : 1 ≤ n) (hn : n ≤ 12) (hs : ∀ d ∈ xs, small d) :
    Calls Tryz.prog 31 #[.slice A n c] w (RetS w 40 2 (vC (cornI xs))) := by
  have h0 : 0 < xs.length := by omega
  have hsm := minC_small h0 hs
  have hms : ∀ k, k ≤ n → (-1000 ≤ minTo (·.1) xs k ∧ minTo (·.1) xs k ≤ 1000) ∧ (-1000 ≤ minTo (·.2) xs k ∧ minTo (·.2) xs k ≤ 1000) := by
    intro k hk
    obtain ⟨a, ha, e1⟩ := minTo_at (·.1) xs h0 k (by omega)
    obtain ⟨b, hb, e2⟩ := minTo_at (·.2) xs h0 k (by omega)
    have h1 := hs a ha
    have h2 := hs b hb
    unfold small at h1 h2
    rw [e1, e2]
    exact ⟨h1.1, h2.2⟩
  have hV : cornI xs = sortC (mv xs (-(minTo (·.1) xs n)) (-(minTo (·.2) xs n))) := by unfold cornI minC; rw [hl]
  have HV := Lib.hid hV
  have HL := Lib.hid hl
  have HS := Lib.hid hs
  have HMS := Lib.hid hms
  have HR := Lib.hid hr
  obtain ⟨g0, o0, hA, hg0, z1, z2⟩ := RdC.at_ hr h0
  subst hA
  obtain ⟨u, hu⟩ : ∃ u, xs[0].1 = u := ⟨_, rfl⟩
  obtain ⟨v, hv⟩ : ∃ v, xs[0].2 = v := ⟨_, rfl⟩
  rw [hu] at z1
  rw [hv] at z2
  simp only [Nat.zero_mul, Nat.add_zero] at z1 z2
  have H1 : Hid (minTo (·.1) xs 0 = u) := by show (xs.getD 0 default).1 = u; rw [getD_in xs h0, hu]
  have H2 : Hid (minTo (·.2) xs 0 = v) := by show (xs.getD 0 default).2 = v; rw [getD_in xs h0, hv]
  have hn0 : (0 : Int) < (n : Int) := by omega
  have hn00 : 0 < n := by omega
  clear hl hs hms hr hV hu hv hsm
  go_enter Tryz.func31, Tryz.ntmps31
  go_wp2_with fail
  (refine wp_region_below (by kernel_rfl) (by kernel_rfl) ?_; (repeat (first | go_big_quiet_skip | (refine quietV (v := ?_) (by rfl) rfl (fun w' hbw => ?_) ?_; rotate_left; ((try dsimp only at hbw); have hbc := (bcell hbw).1; have hbf := (bcell hbw).2; go_simp; first | done | with_reducible rfl | fail); simp only [List.setIfInBounds_toArray, List.set_cons_zero, List.set_cons_succ]))); refine wpQuiet_nil ?_; intro wq hbq)
  clear z1 z2
  go_wp2_with fail
  go_loopw [17, 3, 4] (fun e17 e3 e4 wr => ∃ (k : Nat) (px py : Int), k ≤ n ∧ e17 = .int .i64 k ∧ e3 = .int .i64 px ∧ e4 = .int .i64 py ∧ minTo (·.1) xs k = px ∧ minTo (·.2) xs k = py ∧ Below w.heap.size w wr) (fun e17 _ _ _ => n - (intOf e17).toNat)
  case atStart => exact ⟨0, u, v, Nat.zero_le _, rfl, rfl, rfl, H1.out, H2.out, hbq⟩
  case round =>
    obtain ⟨k, px, py, hk, rfl, rfl, rfl, hpx, hpy, hb⟩ := hrel
    have HPX := Lib.hid hpx
    have HPY := Lib.hid hpy
    clear hpx hpy
    by_cases hlt : k < n
    · have hkl : k < xs.length := by rw [HL.out]; exact hlt
      have hk0 : (0 : Int) ≤ (k : Int) := by omega
      have hk1 : (k : Int) < (n : Int) := by omega
      obtain ⟨g, off, he, hg, d1, d2⟩ := RdC.at_ (HR.out.below hb) hkl
      simp only [Option.some.injEq, Addr.mk.injEq, and_true] at he
      obtain ⟨rfl, rfl⟩ := he
      obtain ⟨p, hp⟩ : ∃ p, xs[k].1 = p := ⟨_, rfl⟩
      obtain ⟨q, hq⟩ : ∃ q, xs[k].2 = q := ⟨_, rfl⟩
      rw [hp] at d1
      rw [hq] at d2
      have S1 : Hid (minTo (·.1) xs (k + 1) = if p < px then p else px) := by show minTo (·.1) xs (k + 1) = _; unfold minTo; rw [getD_in xs hkl, hp, HPX.out]
      have S2 : Hid (minTo (·.2) xs (k + 1) = if q < py then q else py) := by show minTo (·.2) xs (k + 1) = _; unfold minTo; rw [getD_in xs hkl, hq, HPY.out]
      clear hp hq
      by_cases h1 : p < px
      · by_cases h2 : q < py
        · have T1 : Hid (minTo (·.1) xs (k + 1) = p) := by show _ = _; rw [S1.out]; exact if_pos h1
          have T2 : Hid (minTo (·.2) xs (k + 1) = q) := by show _ = _; rw [S2.out]; exact if_pos h2
          go_wp2_with fail
          (refine wp_region_below (by kernel_rfl) (by kernel_rfl) ?_; (repeat (first | go_big_quiet_skip | (refine quietV (v := ?_) (by rfl) rfl (fun w' hbw => ?_) ?_; rotate_left; ((try dsimp only at hbw); have hbc := (bcell hbw).1; have hbf := (bcell hbw).2; go_simp; first | done | with_reducible rfl | fail); simp only [List.setIfInBounds_toArray, List.set_cons_zero, List.set_cons_succ]))); refine wpQuiet_nil ?_; intro wq hbq)
          go_wp2_with fail
          exact ⟨⟨k + 1, p, q, by omega, by go_num, by first | rfl | (simp <;> omega), by first | rfl | (simp <;> omega), T1.out, T2.out, bel_trans (bel_alloc hb _) hbq⟩, by simp [intOf]; omega⟩
        · have T1 : Hid (minTo (·.1) xs (k + 1) = p) := by show _ = _; rw [S1.out]; exact if_pos h1
          have T2 : Hid (minTo (·.2) xs (k + 1) = py) := by show _ = _; rw [S2.out]; exact if_neg h2
          go_wp2_with fail
          (refine wp_region_below (by kernel_rfl) (by kernel_rfl) ?_; (repeat (first | go_big_quiet_skip | (refine quietV (v := ?_) (by rfl) rfl (fun w' hbw => ?_) ?_; rotate_left; ((try dsimp only at hbw); have hbc := (bcell hbw).1; have hbf := (bcell hbw).2; go_simp; first | done | with_reducible rfl | fail); simp only [List.setIfInBounds_toArray, List.set_cons_zero, List.set_cons_succ]))); refine wpQuiet_nil ?_; intro wq hbq)
          go_wp2_with fail
          exact ⟨⟨k + 1, p, py, by omega, by go_num, by first | rfl | (simp <;> omega), by first | rfl | (simp <;> omega), T1.out, T2.out, bel_trans (bel_alloc hb _) hbq⟩, by simp [intOf]; omega⟩
      · by_cases h2 : q < py
        · have T1 : Hid (minTo (·.1) xs (k + 1) = px) := by show _ = _; rw [S1.out]; exact if_neg h1
          have T2 : Hid (minTo (·.2) xs (k + 1) = q) := by show _ = _; rw [S2.out]; exact if_pos h2
          go_wp2_with fail
          (refine wp_region_below (by kernel_rfl) (by kernel_rfl) ?_; (repeat (first | go_big_quiet_skip | (refine quietV (v := ?_) (by rfl) rfl (fun w' hbw => ?_) ?_; rotate_left; ((try dsimp only at hbw); have hbc := (bcell hbw).1; have hbf := (bcell hbw).2; go_simp; first | done | with_reducible rfl | fail); simp only [List.setIfInBounds_toArray, List.set_cons_zero, List.set_cons_succ]))); refine wpQuiet_nil ?_; intro wq hbq)
          go_wp2_with fail
          exact ⟨⟨k + 1, px, q, by omega, by go_num, by first | rfl | (simp <;> omega), by first | rfl | (simp <;> omega), T1.out, T2.out, bel_trans (bel_alloc hb _) hbq⟩, by simp [intOf]; omega⟩
        · have T1 : Hid (minTo (·.1) xs (k + 1) = px) := by show _ = _; rw [S1.out]; exact if_neg h1
          have T2 : Hid (minTo (·.2) xs (k + 1) = py) := by show _ = _; rw [S2.out]; exact if_neg h2
          go_wp2_with fail
          (refine wp_region_below (by kernel_rfl) (by kernel_rfl) ?_; (repeat (first | go_big_quiet_skip | (refine quietV (v := ?_) (by rfl) rfl (fun w' hbw => ?_) ?_; rotate_left; ((try dsimp only at hbw); have hbc := (bcell hbw).1; have hbf := (bcell hbw).2; go_simp; first | done | with_reducible rfl | fail); simp only [List.setIfInBounds_toArray, List.set_cons_zero, List.set_cons_succ]))); refine wpQuiet_nil ?_; intro wq hbq)
          go_wp2_with fail
          exact ⟨⟨k + 1, px, py, by omega, by go_num, by first | rfl | (simp <;> omega), by first | rfl | (simp <;> omega), T1.out, T2.out, bel_trans (bel_alloc hb _) hbq⟩, by simp [intOf]; omega⟩
    · obtain rfl : k = n := by omega
      have hk1 : ¬ (k : Int) < (k : Int) := by omega
      have hms := HMS.out k (Nat.le_refl _)
      rw [HPX.out, HPY.out] at hms
      obtain ⟨⟨q1, q2⟩, q3, q4⟩ := hms
      have e1 : IntKind.i64.wrap (-px) = -px := Go.IntWalk.i64_in _ (by omega)
      have e2 : IntKind.i64.wrap (-py) = -py := Go.IntWalk.i64_in _ (by omega)
      go_wp2_with fail
      refine (moved_i _ k c xs (-px) (-py) _ (HR.out.below hb) HL.out (by omega) HS.out (by omega) (by omega)).mono ?_
      rintro e w1 ⟨D, m, cD, rfl, ho, hb1⟩
      have hm : m = k := by have := own_len ho; rw [vC_length, mv_len, HL.out] at this; omega
      subst hm
      have HO := Lib.hid ho
      clear ho
      go_wp2_with fail
      refine (SortCells_i D m cD _ _ (Rd.of_own HO.out) (by rw [mv_len]; exact HL.out) hn1 hn).mono ?_
      rintro e w2 ⟨E, m2, cE, rfl, ho2, hb2⟩
      rw [← HPX.out, ← HPY.out, ← HV.out] at ho2
      have HO2 := Lib.hid (own_base (base' := w.heap.size) ho2 (by have := hb.size; have := hb1.size; omega))
      clear ho2
      go_wp2_with fail
      go_ret
      exact ⟨_, _, _, rfl, HO2.out, bel_trans (bel_trans hb hb1) hb2⟩
end Go.Proofs.YtfnphchcgaebkaaGreat

/- An append of cells by an operation taken alone. -/
namespace Go.Proofs.YtfnphchcgaebkaaGreat
open Go.RowKit
set_option linter.unusedVariables false
section
variable (w : World) {ops : Array Oper} {rest : List Oper} {o : Oper} {a : Act} {Q : Exit → Act → World → Prop}
theorem wpC (s x : Operand) {K : Act → World → Prop} (ho : o.op = .call { callee := .builtin .append, args := #[s, x], argTypes := #[24, 24] })
    (base : Nat) (A : Option Addr) (n c : Nat) (l : List C) (hs : a.eval s = .slice A n c) (hown : w.ownsRow base 40 2 (.slice A n c) n (vC l))
    (A2 : Option Addr) (m c2 : Nat) (l2 : List C) (hx : a.eval x = .slice A2 m c2) (hr : Rd w A2 (vC l2)) (hl : l2.length = m) (hb : n + m ≤ 1099511627776) (hbase : base ≤ w.heap.size)
    (h : ∀ A' c' w', w'.ownsRow base 40 2 (.slice A' (n + m) c') (n + m) (vC (l ++ l2)) → w.grownBy w' (ob A) → (ob A' = ob A ∨ ob A' = some w.heap.size) → K (a.put o.dst (.slice A' (n + m) c')) w') :
    o.wp Tryz.prog a w K Q := by
  obtain ⟨i0, hi, hz0, hz1, hz2⟩ := info_parts infoC
  refine wp_app w s x _ ho base _ i0 _ 2 16 Tryz.underlying24 hi hz0 hz1 hz2 rfl (by omega) A n c _ hs hown A2 m c2 _ hx hr (by rw [vC_length, hl]) (vC_one _) (by unfold maxLen; omega) (by omega) hbase ?_
  intro A' c' w' h1
  rw [← vC_append] at h1
  exact h A' c' w' h1
end
end Go.Proofs.YtfnphchcgaebkaaGreat

/- Cells moved to their corner: the reference. -/
namespace Go.Proofs.YtfnphchcgaebkaaGreat
open Go.RowKit
set_option linter.unusedVariables false
attribute [local go_sem ↓] Go.wp_at_zero Go.wp_at_succ

set_option maxHeartbeats 3200000 in
theorem l2Corner_s (A : Option Addr) (n c : Nat) (xs : List C) (w : World) (hr : Rd w A (vC xs)) (hl : xs.length = n) (hn : n ≤ 1048576) (hs : ∀ d ∈ xs, small d) :
    Calls Tryz.prog 37 #[.slice A n c] w (RetS w 40 2 (vC (cornS xs))) := by
  have hms : 0 < n → (-1000 ≤ minTo (·.1) xs n ∧ minTo (·.1) xs n ≤ 1000) ∧ (-1000 ≤ minTo (·.2) xs n ∧ minTo (·.2) xs n ≤ 1000) := by
    intro h0
    have := minC_small (by omega) hs
    unfold minC at this
    rwa [hl] at this
  have hV : ∀ px py, (n = 0 ∧ px = 0 ∧ py = 0 ∨ 0 < n ∧ px = minTo (·.1) xs n ∧ py = minTo (·.2) xs n) → mv xs (-px) (-py) = cornS xs := by
    intro px py h
    rcases h with ⟨h1, _, _⟩ | ⟨h1, h2, h3⟩
    · rw [List.eq_nil_of_length_eq_zero (hl.trans h1)]; rfl
    · unfold cornS minC; rw [hl, h2, h3]
  have HV := Lib.hid hV
  have HL := Lib.hid hl
  have HS := Lib.hid hs
  have HMS := Lib.hid hms
  have HR := Lib.hid hr
  have hini := own_new w 40 2 0 #[] rfl (by simp [maxLen]) (base := w.heap.size) (Nat.le_refl _)
  have HI0 := Lib.hid hini
  clear hini hl hs hms hr hV
  go_enter Tryz.func37, Tryz.ntmps37
  go_wp2
  go_loopw [4, 5, 6] (fun e4 e5 e6 wr => ∃ (k : Nat) (px py : Int), k ≤ n ∧ e4 = .int .i64 px ∧ e5 = .int .i64 py ∧ e6 = .int .i64 k ∧ (k = 0 ∧ px = 0 ∧ py = 0 ∨ 0 < k ∧ px = minTo (·.1) xs k ∧ py = minTo (·.2) xs k) ∧ Below (w.alloc (.cells #[] 40)).heap.size (w.alloc (.cells #[] 40)) wr) (fun _ _ e6 _ => n - (intOf e6).toNat)
  case atStart => exact ⟨0, 0, 0, Nat.zero_le _, rfl, rfl, rfl, .inl ⟨rfl, rfl, rfl⟩, Below.refl _ _⟩
  case round =>
    obtain ⟨k, px, py, hk, rfl, rfl, rfl, hp, hb⟩ := hrel
    have HP := Lib.hid hp
    clear hp
    have hbw : Below w.heap.size w wr := (by (repeat (first | with_reducible exact Below.refl _ _ | with_reducible assumption | with_reducible apply bel_alloc | with_reducible apply bel_drew | with_reducible apply bel_drewN | ((with_reducible refine bel_set ?_ ?_); rotate_left; (simp <;> omega)) | (with_reducible refine bel_trans ?_ (by with_reducible assumption)))))
    by_cases hlt : k < n
    · have hkl : k < xs.length := by rw [HL.out]; exact hlt
      have hk0 : (0 : Int) ≤ (k : Int) := by omega
      have hk1 : (k : Int) < (n : Int) := by omega
      obtain ⟨g, off, hA, hg, d1, d2⟩ := RdC.at_ (HR.out.below hbw) hkl
      subst hA
      obtain ⟨p, hp⟩ : ∃ p, xs[k].1 = p := ⟨_, rfl⟩
      obtain ⟨q, hq⟩ : ∃ q, xs[k].2 = q := ⟨_, rfl⟩
      rw [hp] at d1
      rw [hq] at d2
      have S1 : Hid (minTo (·.1) xs (k + 1) = if p < minTo (·.1) xs k then p else minTo (·.1) xs k) := by show minTo (·.1) xs (k + 1) = _; rw [minTo, getD_in xs hkl, hp]
      have S2 : Hid (minTo (·.2) xs (k + 1) = if q < minTo (·.2) xs k then q else minTo (·.2) xs k) := by show minTo (·.2) xs (k + 1) = _; rw [minTo, getD_in xs hkl, hq]
      by_cases hz : k = 0
      · have M0 : Hid (minTo (·.1) xs k = p ∧ minTo (·.2) xs k = q) := by
          show _ ∧ _
          subst hz
          exact ⟨by show (xs.getD 0 default).1 = p; rw [getD_in xs hkl, hp], by show (xs.getD 0 default).2 = q; rw [getD_in xs hkl, hq]⟩
        have e0 : ((k : Int) == 0) = true := by simp [hz]
        clear hz hp hq
        have T1 : Hid (minTo (·.1) xs (k + 1) = p) := by show _ = _; rw [S1.out]; rw [show minTo (·.1) xs k = p from M0.out.1]; exact ite_self _
        have T2 : Hid (minTo (·.2) xs (k + 1) = q) := by show _ = _; rw [S2.out]; rw [show minTo (·.2) xs k = q from M0.out.2]; exact ite_self _
        go_wp2_with fail
        exact ⟨⟨k + 1, p, q, by omega, rfl, rfl, by go_num, .inr ⟨by omega, T1.out.symm, T2.out.symm⟩, hb⟩, by simp [intOf]; omega⟩
      · have e0 : ((k : Int) == 0) = false := by simp; omega
        have hkz : ¬ k = 0 := hz
        have hpp : px = minTo (·.1) xs k ∧ py = minTo (·.2) xs k := by
          rcases HP.out with ⟨h1, _, _⟩ | ⟨_, h2, h3⟩
          · exact absurd h1 hz
          · exact ⟨h2, h3⟩
        have HPX := Lib.hid hpp.1
        have HPY := Lib.hid hpp.2
        clear hz hp hq hpp
        by_cases h1 : p < px
        · by_cases h2 : q < py
          · have T1 : Hid (minTo (·.1) xs (k + 1) = p) := by show _ = _; rw [S1.out, ← HPX.out]; exact if_pos h1
            have T2 : Hid (minTo (·.2) xs (k + 1) = q) := by show _ = _; rw [S2.out, ← HPY.out]; exact if_pos h2
            go_wp2_with fail
            exact ⟨⟨k + 1, p, q, by omega, rfl, rfl, by go_num, .inr ⟨by omega, T1.out.symm, T2.out.symm⟩, hb⟩, by simp [intOf]; omega⟩
          · have h2d : decide (q < py) = false := by simp; omega
            have T1 : Hid (minTo (·.1) xs (k + 1) = p) := by show _ = _; rw [S1.out, ← HPX.out]; exact if_pos h1
            have T2 : Hid (minTo (·.2) xs (k + 1) = py) := by show _ = _; rw [S2.out, ← HPY.out]; exact if_neg h2
            go_wp2_with fail
            exact ⟨⟨k + 1, p, py, by omega, rfl, rfl, by go_num, .inr ⟨by omega, T1.out.symm, T2.out.symm⟩, hb⟩, by simp [intOf]; omega⟩
        · have h1d : decide (p < px) = false := by simp; omega
          by_cases h2 : q < py
          · have T1 : Hid (minTo (·.1) xs (k + 1) = px) := by show _ = _; rw [S1.out, ← HPX.out]; exact if_neg h1
            have T2 : Hid (minTo (·.2) xs (k + 1) = q) := by show _ = _; rw [S2.out, ← HPY.out]; exact if_pos h2
            go_wp2_with fail
            exact ⟨⟨k + 1, px, q, by omega, rfl, rfl, by go_num, .inr ⟨by omega, T1.out.symm, T2.out.symm⟩, hb⟩, by simp [intOf]; omega⟩
          · have h2d : decide (q < py) = false := by simp; omega
            have T1 : Hid (minTo (·.1) xs (k + 1) = px) := by show _ = _; rw [S1.out, ← HPX.out]; exact if_neg h1
            have T2 : Hid (minTo (·.2) xs (k + 1) = py) := by show _ = _; rw [S2.out, ← HPY.out]; exact if_neg h2
            go_wp2_with fail
            exact ⟨⟨k + 1, px, py, by omega, rfl, rfl, by go_num, .inr ⟨by omega, T1.out.symm, T2.out.symm⟩, hb⟩, by simp [intOf]; omega⟩
    · obtain rfl : k = n := by omega
      have hk1 : ¬ (k : Int) < (k : Int) := by omega
      have hbnd : -1000 ≤ px ∧ px ≤ 1000 ∧ -1000 ≤ py ∧ py ≤ 1000 := by
        rcases HP.out with ⟨_, h1, h2⟩ | ⟨h0, h1, h2⟩
        · omega
        · have := HMS.out h0
          rw [← h1, ← h2] at this
          omega
      obtain ⟨q1, q2, q3, q4⟩ := hbnd
      have HVV := Lib.hid (HV.out px py HP.out)
      have HO0 := Lib.hid (own_keep HI0.out hb)
      clear hb
      go_wp2_with fail
      go_loopw [7, 3] (fun e7 e3 wr2 => ∃ (j cq : Nat) (D : Option Addr), j ≤ k ∧ e7 = .int .i64 j ∧ e3 = .slice D j cq ∧ wr2.ownsRow w.heap.size 40 2 (.slice D j cq) j (vC (mv (xs.take j) (-px) (-py))) ∧ Below w.heap.size w wr2) (fun e7 _ _ => k - (intOf e7).toNat)
      case atStart => exact ⟨0, 0, _, Nat.zero_le _, rfl, rfl, HO0.out, hbw⟩
      case round =>
        clear hbw
        obtain ⟨j, cq, D, hj, rfl, rfl, hown, hb⟩ := hrel
        by_cases hlt : j < k
        · have hkl : j < xs.length := by rw [HL.out]; exact hlt
          have hj0 : (0 : Int) ≤ (j : Int) := by omega
          have hj1 : (j : Int) < (k : Int) := by omega
          obtain ⟨g, off, hA, hg0, d1, d2⟩ := RdC.at_ HR.out hkl
          subst hA
          have hg : g < wr.heap.size := Nat.lt_of_lt_of_le hg0 hb.size
          replace d1 := (hb.cell (p := ⟨g, off + j * 2, none⟩) hg0).trans d1
          replace d2 := (hb.cell (p := ⟨g, off + j * 2 + 1, none⟩) hg0).trans d2
          have hgD : ¬ (some g = ob D) := fun e => by have := (own_lt hown g e.symm).1; omega
          have hst := mv_take xs (-px) (-py) j hkl
          have hsm := HS.out _ (List.getElem_mem hkl)
          obtain ⟨p, hp⟩ : ∃ p, xs[j].1 = p := ⟨_, rfl⟩
          obtain ⟨q, hq⟩ : ∃ q, xs[j].2 = q := ⟨_, rfl⟩
          unfold small at hsm
          rw [hp, hq] at hsm hst
          rw [hp] at d1
          rw [hq] at d2
          have e1 : IntKind.i64.wrap (p - px) = p - px := Go.IntWalk.i64_in _ (by omega)
          have e2 : IntKind.i64.wrap (q - py) = q - py := Go.IntWalk.i64_in _ (by omega)
          rw [← Int.sub_eq_add_neg, ← Int.sub_eq_add_neg] at hst
          have HST := Lib.hid hst
          have HO := Lib.hid hown
          have hbs := hb.size
          clear hst hown hp hq hsm
          go_wp2_with fail
          (refine wp_region_tailN (C := Gr wr D) 16 (by kernel_rfl) (by kernel_rfl) (Gr.drawn _ _) (fun _ _ h k => h.ext k) ?_; simp only [List.take_succ_cons, List.take_zero, List.drop_succ_cons, List.drop_zero]; (repeat (first | (refine headSkip (by rfl) rfl ?_; simp only [List.setIfInBounds_toArray, List.set_cons_zero, List.set_cons_succ]) | (refine headV (v := ?_) (by rfl) rfl (fun w' hcw => ?_) ?_; rotate_left; ((try dsimp only at hcw); have hbc := hcw.cells; go_simp; first | done | with_reducible rfl | fail); simp only [List.setIfInBounds_toArray, List.set_cons_zero, List.set_cons_succ]))); unfold wpHead)
          (refine tailK (by rfl) (fun w3 hc3 he3 K hK => ?_); go_simp; refine hK _ _ (hc3.ext (by (repeat (first | with_reducible exact Below.refl _ _ | with_reducible assumption | with_reducible apply bel_alloc | with_reducible apply bel_drew | with_reducible apply bel_drewN | ((with_reducible refine bel_set ?_ ?_); rotate_left; (simp <;> omega)) | (with_reducible refine bel_trans ?_ (by with_reducible assumption)))))) ?_; clear hK K)
          (refine tailK (by rfl) (fun w4 hc4 he4 K hK => ?_); refine wpC _ _ _ rfl w.heap.size D j cq (mv (xs.take j) (-px) (-py)) rfl (own_keep ((own_keep HO.out he3).alloc _) he4) _ 1 1 [(p - px, q - py)] rfl (Rd.below (rd_newC _ _ _ _) he4) rfl (by omega) (by have h2 := he3.size; have h3 := he4.size; simp at h3; omega) ?_; intro A2 c2 w5 hown5 hg5 _; refine hK _ _ (Gr.trans hc4 hg5) ?_; clear hK K; simp only [Act.put, List.setIfInBounds_toArray, List.set_cons_zero, List.set_cons_succ])
          (refine tailK (by rfl) (fun w6 hc6 he6 K hK => ?_); go_simp; refine hK _ _ (hc6) ?_; clear hK K)
          (refine fun w7 hc7 he7 => NoPanic.normal ?_)
          have hb5 : Below w.heap.size w w5 := bel_app (bel_trans (bel_alloc (bel_trans hb he3) _) he4) hg5 (fun g' hg' => ((own_lt HO.out) g' hg').1)
          have HO3 := Lib.hid (own_keep (own_keep hown5 he6) he7)
          clear hown5
          go_wp2
          exact ⟨⟨j + 1, c2, A2, by omega, by go_num, rfl, by rw [HST.out]; exact HO3.out, bel_trans (bel_trans hb5 he6) he7⟩, by simp [intOf]; omega⟩
        · obtain rfl : j = k := by omega
          rw [List.take_of_length_le (by rw [HL.out]; omega), HVV.out] at hown
          have HO := Lib.hid hown
          have hj1 : ¬ (j : Int) < (j : Int) := by omega
          clear hown
          go_wp2
          go_ret
          exact ⟨_, _, _, rfl, HO.out, hb⟩
end Go.Proofs.YtfnphchcgaebkaaGreat
