/- The laws' own functions on slices of slices of cells. -/
import Derived.Test.YteelmhmdnljjnaaGreatOpenP
import Derived.Test.YteelmhmdnljjnaaGreatNest
import Derived.Test.YteelmhmdnljjnaaGreatLawC
import Derived.Test.YteelmhmdnljjnaaGreatQreg
import Derived.Outline
import Derived.WalkLawsBesides
import Derived.WalkSpells
import Derived.BigQuiet
import Derived.Deep.QuietTactic
import Derived.Deep.RegionHeld3
import Derived.Deep.RegionWith
import Derived.Deep.DeepCutAuto
import Derived.Deep.CutBlock
import Derived.Deep.DrawnRows
namespace Go.Proofs.YteelmhmdnljjnaaGreat
open Go.RowKit
set_option linter.unusedVariables false
attribute [local go_sem ↓] Go.wp_at_zero Go.wp_at_succ
def totC (F : List (List C)) : Nat := (F.map List.length).sum
theorem totC_take (F : List (List C)) (j : Nat) (h : j < F.length) : totC (F.take (j + 1)) = totC (F.take j) + F[j].length := by
  rw [List.take_succ_eq_append_getElem h]
  simp only [totC, List.map_append, List.map_cons, List.map_nil, List.sum_append, List.sum_cons, List.sum_nil, Nat.add_zero]
theorem totC_le (F : List (List C)) (j : Nat) : totC (F.take j) ≤ totC F := by
  have : totC F = totC (F.take j) + totC (F.drop j) := by
    have := List.take_append_drop j F
    conv => lhs; rw [← this]
    simp only [totC, List.map_append, List.sum_append]
  omega
theorem totC_row (F : List (List C)) {k : Nat} {f : List C} (h : F[k]? = some f) : f.length ≤ totC F := by
  obtain ⟨hk, rfl⟩ := List.getElem?_eq_some_iff.1 h
  have := totC_take F k hk
  have := totC_le F (k + 1)
  omega
/-- What is left behind some rows. -/
def szRows : Int → List (List C) → Int
  | m, [] => m
  | m, f :: t => if m < (f.length : Int) then -1 else szRows (m - f.length) t
theorem szRows_ok : ∀ (m : Int) (F : List (List C)), 0 ≤ szRows m F → (totC F : Int) ≤ m
  | m, [], h => by simpa [totC, szRows] using h
  | m, f :: t, h => by
    unfold szRows at h
    split at h
    · omega
    · have := szRows_ok _ _ h
      simp only [totC, List.map_cons, List.sum_cons] at this ⊢
      omega
theorem szRows_step {m : Int} {F : List (List C)} {k : Nat} {f : List C} (h : F[k]? = some f) : szRows m (F.drop k) = if m < (f.length : Int) then -1 else szRows (m - f.length) (F.drop (k + 1)) := by
  obtain ⟨hk, rfl⟩ := List.getElem?_eq_some_iff.1 h
  rw [List.drop_eq_getElem_cons hk]
  rfl
def szP (m : Int) (n : Nat) (F : List (List C)) : Int := if m < (n : Int) then -1 else szRows (m - n) F
set_option maxHeartbeats 800000 in
theorem szCellSS_l (A : Option Addr) (n c : Nat) (m : Int) (hs : List H) (F : List (List C)) (w : World) (h : RdP w A n hs F) (hx : ∀ x ∈ hs, x.2.1 ≤ maxLen) (hm : n ≤ maxLen) (h0 : 0 ≤ m) (h1 : m ≤ 1048576) :
    Calls Tryz.prog 11 #[.slice A n c, .int .i64 m] w (Ret w (.int .i64 (szP m n F))) := by
  unfold maxLen at hm
  have HP := Lib.hid h
  have HX := Lib.hid hx
  clear h hx
  by_cases hlt : m < (n : Int)
  · have hn : m - (n : Int) < 0 := by omega
    have HV := Lib.hid (show szP m n F = -1 from if_pos hlt)
    go_enter Tryz.func11, Tryz.ntmps11
    go_wp2
    go_ret
    exact ⟨by rw [HV.out]; rfl, (by (repeat (first | with_reducible exact Below.refl _ _ | with_reducible assumption | with_reducible apply bel_alloc | with_reducible apply bel_drew | with_reducible apply bel_drewN | ((with_reducible refine bel_set ?_ ?_); rotate_left; (simp <;> omega)) | (with_reducible refine bel_trans ?_ (by with_reducible assumption)))))⟩
  · have hn : ¬ m - (n : Int) < 0 := by omega
    have HV := Lib.hid (show szP m n F = szRows (m - n) F from if_neg hlt)
    go_enter Tryz.func11, Tryz.ntmps11
    go_wp2
    go_loopw [1, 5] (fun t i wr => ∃ (j : Nat) (m' : Int), j ≤ n ∧ i = .int .i64 j ∧ t = .int .i64 m' ∧ 0 ≤ m' ∧ m' ≤ 1048576 ∧ szRows (m - n) F = szRows m' (F.drop j) ∧ Below w.heap.size w wr) (fun _ i _ => n - (intOf i).toNat)
    case atStart => exact ⟨0, m - n, Nat.zero_le _, rfl, rfl, by omega, by omega, by simp, (by (repeat (first | with_reducible exact Below.refl _ _ | with_reducible assumption | with_reducible apply bel_alloc | with_reducible apply bel_drew | with_reducible apply bel_drewN | ((with_reducible refine bel_set ?_ ?_); rotate_left; (simp <;> omega)) | (with_reducible refine bel_trans ?_ (by with_reducible assumption)))))⟩
    case round =>
      obtain ⟨j, m', hj, rfl, rfl, hm0, hm1, hsz, hb⟩ := hrel
      by_cases hjn : j < n
      · have hj0 : (0 : Int) ≤ (j : Int) := by omega
        have hj1 : (j : Int) < (n : Int) := by omega
        obtain ⟨x, f, g, off, hsx, hfx, rfl, hg, c1, hfl, hrd⟩ := (HP.out.below hb).at_ hjn
        have hxm : x.2.1 ≤ maxLen := HX.out x (List.mem_of_getElem? hsx)
        rw [szRows_step hfx, hfl] at hsz
        obtain ⟨B1, m1, k1⟩ := x
        dsimp only at c1 hfl hrd hxm hsz
        have hc := szCellS_l B1 m1 k1 m' wr hxm hm0 hm1
        have HXM := Lib.hid hxm
        by_cases hlt2 : m' < (m1 : Int)
        · rw [if_pos hlt2] at hsz hc
          have HS := Lib.hid hsz
          have HC := Lib.hid hc
          clear hsz hc hsx hfx hfl hrd hxm
          go_wp2_with fail
          refine Calls.mono HC.out ?_
          rintro e w1 ⟨rfl, hb1⟩
          go_wp2_with fail
          go_ret
          exact ⟨by rw [HV.out, HS.out]; rfl, (by (repeat (first | with_reducible exact Below.refl _ _ | with_reducible assumption | with_reducible apply bel_alloc | with_reducible apply bel_drew | with_reducible apply bel_drewN | ((with_reducible refine bel_set ?_ ?_); rotate_left; (simp <;> omega)) | (with_reducible refine bel_trans ?_ (by with_reducible assumption)))))⟩
        · rw [if_neg hlt2] at hsz hc
          have HS := Lib.hid hsz
          have HC := Lib.hid hc
          have hd0 : ¬ m' - (m1 : Int) < 0 := by omega
          clear hsz hc hsx hfx hfl hrd hxm
          go_wp2_with fail
          refine Calls.mono HC.out ?_
          rintro e w1 ⟨rfl, hb1⟩
          go_wp2_with fail
          exact ⟨⟨j + 1, m' - (m1 : Int), by omega, by go_num, rfl, by omega, by omega, HS.out, (by (repeat (first | with_reducible exact Below.refl _ _ | with_reducible assumption | with_reducible apply bel_alloc | with_reducible apply bel_drew | with_reducible apply bel_drewN | ((with_reducible refine bel_set ?_ ?_); rotate_left; (simp <;> omega)) | (with_reducible refine bel_trans ?_ (by with_reducible assumption)))))⟩, by simp [intOf]; omega⟩
      · have hjn2 : j = n := by omega
        subst hjn2
        rw [List.drop_of_length_le (by rw [HP.out.flen]; omega)] at hsz
        have HS := Lib.hid hsz
        have hj1 : ¬ (j : Int) < (j : Int) := by omega
        clear hsz
        go_wp2
        go_ret
        exact ⟨by rw [HV.out, HS.out]; rfl, hb⟩
theorem infoCS : (Tryz.prog.info? 59).map (fun i => (i.zero, i.size, i.bytes)) = some (some (.slice none 0 0), 1, 24) := by kernel_rfl
theorem mk_CS (w : World) (n : Nat) (hn : n ≤ 1048576) : (Instr.makeSlice 31 (.int .i64 (n : Int)) (.int .i64 (n : Int))).run Tryz.prog w = .ok (.slice (some ⟨w.heap.size, 0, none⟩) n n) (w.alloc (.cells (vS (zeS n)).toArray 59)) := by
  obtain ⟨i0, hi, hz0, hz1, hz2⟩ := info_parts infoCS
  have h := run_make (P := Tryz.prog) w 31 59 i0 _ Tryz.underlying31 hi hz0 .i64 .i64 (n : Int) (n : Int) (by omega) (Int.le_refl _) (by rw [hz2]; omega) (by omega)
  rw [h, hz1]
  have e : madeCells (Value.slice none 0 0).cells ((n : Int).toNat * 1) = (vS (zeS n)).toArray := by
    apply Array.ext'
    rw [show (Value.slice none 0 0).cells = #[.slice none 0 0] from rfl, toList_madeCells_one]
    simp [vS, zeS, hd]
  rw [e]
  simp
/-- A result that is a slice of slices of cells. -/
def RetP (w : World) (n : Nat) (F : List (List C)) (e : Ending) (w' : World) : Prop :=
  ∃ A c hs, e = .returned (.slice A n c) ∧ RdP w' A n hs F ∧ Below w.heap.size w w'
set_option maxHeartbeats 800000 in
theorem toCellSS_l (A : Option Addr) (n c : Nat) (hs : List H) (F : List (List C)) (w : World) (h : RdP w A n hs F) (hn : n ≤ 1048576) (hm : totC F ≤ 1048576) :
    Calls Tryz.prog 14 #[.slice A n c] w (RetP w n F) := by
  have hmk := mk_CS w n hn
  have HP := Lib.hid h
  clear h
  go_enter Tryz.func14, Tryz.ntmps14
  go_wp2
  go_loopw [4] (fun i wr => ∃ (k : Nat) (qs : List H), k ≤ n ∧ i = .int .i64 k ∧ qs.length = k ∧ Blk wr w.heap.size 59 (vS (qs ++ zeS (n - k))).toArray ∧ (∀ (i : Nat) (x : H) (f : List C), qs[i]? = some x → F[i]? = some f → f.length = x.2.1 ∧ Rd wr x.1 (vC f) ∧ ∀ g, ob x.1 = some g → w.heap.size < g) ∧ Below w.heap.size w wr) (fun i _ => n - (intOf i).toNat)
  case atStart => exact ⟨0, [], Nat.zero_le _, rfl, rfl, Blk.new _ _ _, fun i x f h => by simp at h, (by (repeat (first | with_reducible exact Below.refl _ _ | with_reducible assumption | with_reducible apply bel_alloc | with_reducible apply bel_drew | with_reducible apply bel_drewN | ((with_reducible refine bel_set ?_ ?_); rotate_left; (simp <;> omega)) | (with_reducible refine bel_trans ?_ (by with_reducible assumption)))))⟩
  case round =>
    clear hmk
    obtain ⟨k, qs, hk, rfl, hql, hB, hq, hb⟩ := hrel
    by_cases hlt : k < n
    · have hk0 : (0 : Int) ≤ (k : Int) := by omega
      have hk1 : (k : Int) < (n : Int) := by omega
      obtain ⟨x, f, g, off, hsx, hfx, rfl, hg, c1, hfl, hrd⟩ := (HP.out.below hb).at_ hlt
      have hfm := totC_row F hfx
      obtain ⟨B1, m1, k1⟩ := x
      dsimp only at c1 hfl hrd
      have hm1 : m1 ≤ 1048576 := by omega
      have hgw := hB.lt
      have HB := Lib.hid hB
      have HQ := Lib.hid hq
      have HQL := Lib.hid hql
      have HFX := Lib.hid hfx
      have HFL := Lib.hid hfl
      have HRD := Lib.hid hrd
      clear hsx hfx hfl hrd hB hq hql hfm
      go_wp2_with fail
      refine (toCellS_l _ _ _ f _ HRD.out HFL.out hm1).mono ?_
      rintro e w1 ⟨D, q, cq, rfl, ho, hb1⟩
      have hqf : q = m1 := by have := own_len ho; rw [vC_length] at this; have := HFL.out; omega
      subst hqf
      have hB1 := HB.out.below hb1
      have hkl : k < (qs ++ zeS (n - k)).length := by rw [List.length_append, zeS_length, HQL.out]; omega
      have d1 := blkS_cell hB1 hkl
      have e4 : (qs ++ zeS (n - k))[k]'hkl = (none, 0, 0) := by
        have := HQL.out
        rw [List.getElem_append_right (by omega)]
        simp [zeS]
      rw [e4] at d1
      dsimp only at d1
      have f1 := hB1.frozen k
      have hst := blkS_set hB1 k D q cq
      have e5 : (qs ++ zeS (n - k)).set k (D, q, cq) = (qs ++ [(D, q, cq)]) ++ zeS (n - (k + 1)) := by
        have := HQL.out
        rw [List.set_append_right _ _ (by omega), this, Nat.sub_self, show n - k = (n - (k + 1)) + 1 from by omega]
        simp [zeS, List.replicate_succ]
      rw [e5] at hst
      have HST := Lib.hid hst
      have HO := Lib.hid ho
      have HB1 := Lib.hid hB1
      have hgw1 : w.heap.size < w1.heap.size := hB1.lt
      clear e4 e5 hst ho hB1 hkl
      go_wp2_with fail
      refine ⟨⟨k + 1, qs ++ [(D, q, cq)], by omega, by go_num, by simp [HQL.out], HST.out, ?_, (by (repeat (first | with_reducible exact Below.refl _ _ | with_reducible assumption | with_reducible apply bel_alloc | with_reducible apply bel_drew | with_reducible apply bel_drewN | ((with_reducible refine bel_set ?_ ?_); rotate_left; (simp <;> omega)) | (with_reducible refine bel_trans ?_ (by with_reducible assumption)))))⟩, by simp [intOf]; omega⟩
      intro i y f' hy hf'
      have hfar : ∀ (A : Option Addr) vs, Rd w1 A vs → (∀ g, ob A = some g → w.heap.size < g) → Rd (w1.setCell ⟨w.heap.size, k, none⟩ (.slice D q cq)) A vs := fun A vs hr hn => hr.far (fun g e => by have := hn g e; simp only; omega) _
      by_cases hi : i < qs.length
      · rw [List.getElem?_append_left hi] at hy
        obtain ⟨y1, y2, y3⟩ := HQ.out i y f' hy hf'
        exact ⟨y1, hfar _ _ (y2.below hb1) y3, y3⟩
      · have hik : i = k := by
          have h1 : i < (qs ++ [(D, q, cq)]).length := (List.getElem?_eq_some_iff.1 hy).1
          have := HQL.out
          simp at h1; omega
        subst hik
        have := HQL.out
        rw [List.getElem?_append_right (by omega), this, Nat.sub_self] at hy
        simp at hy
        subst hy
        have : f' = f := by have := HFX.out; rw [hf'] at this; injection this
        subst this
        exact ⟨HFL.out, hfar _ _ (Rd.of_own HO.out) (fun g e => by have := (own_lt HO.out g e).1; omega), fun g e => by have := (own_lt HO.out g e).1; omega⟩
    · have hkn : k = n := by omega
      subst hkn
      rw [Nat.sub_self, show zeS 0 = [] from rfl, List.append_nil] at hB
      have ho := own_blk hB (base := w.heap.size) (size := 1) (n := k) (by simp [vS_length, hql]) (Nat.le_refl _) (by unfold maxLen; omega)
      have hP : RdP wr (some ⟨w.heap.size, 0, none⟩) k qs F := ⟨by simpa using Rd.of_own ho, hql, HP.out.flen, fun i a b => by
        have := hq i _ _ (List.getElem?_eq_getElem a) (List.getElem?_eq_getElem b)
        exact ⟨this.1, this.2.1⟩⟩
      have HR := Lib.hid hP
      have hk1 : ¬ (k : Int) < (k : Int) := by omega
      clear hB hq ho hP hql
      go_wp2
      go_ret
      exact ⟨_, _, qs, rfl, HR.out, hb⟩
theorem eqCellSS_t (A A2 : Option Addr) (n c n2 c2 : Nat) (hs hs2 : List H) (F : List (List C)) (w : World) (h : RdP w A n hs F) (h2 : RdP w A2 n2 hs2 F) (hn : n ≤ 1099511627776) (hm : totC F ≤ 1099511627776) :
    Calls Tryz.prog 18 #[.slice A n c, .slice A2 n2 c2] w (Ret w (.bool true)) := by
  obtain rfl : n2 = n := by rw [← h2.flen, h.flen]
  have H1 := Lib.hid h
  have H2 := Lib.hid h2
  clear h h2
  go_enter Tryz.func18, Tryz.ntmps18
  go_wp2
  go_loopw [5] (fun i wr => ∃ j : Nat, j ≤ n2 ∧ i = .int .i64 j ∧ Below w.heap.size w wr) (fun i _ => n2 - (intOf i).toNat)
  case atStart => exact ⟨0, Nat.zero_le _, rfl, Below.refl _ _⟩
  case round =>
    obtain ⟨j, hj, rfl, hb⟩ := hrel
    by_cases hlt : j < n2
    · have hj0 : (0 : Int) ≤ (j : Int) := by omega
      have hj1 : (j : Int) < (n2 : Int) := by omega
      obtain ⟨x, f, g, off, _, hfx, rfl, hg, d1, l1, r1⟩ := (H1.out.below hb).at_ hlt
      obtain ⟨x2, f2, g2, off2, _, hfx2, rfl, hg2, d2, l2, r2⟩ := (H2.out.below hb).at_ hlt
      obtain rfl : f2 = f := by rw [hfx] at hfx2; injection hfx2 with e; exact e.symm
      have hmf := totC_row F hfx
      obtain ⟨B1, m1, k1⟩ := x
      obtain ⟨B2, m2, k2⟩ := x2
      dsimp only at d1 d2 l1 l2 r1 r2
      have hm1 : m1 ≤ 1099511627776 := by omega
      have L1 := Lib.hid l1
      have L2 := Lib.hid l2
      have R1 := Lib.hid r1
      have R2 := Lib.hid r2
      clear l1 l2 r1 r2 hfx hfx2 hmf
      go_wp2_with fail
      (refine wp_region_below (by kernel_rfl) (by kernel_rfl) ?_; (repeat (first | go_big_quiet_skip | (refine quietV (v := ?_) (by rfl) rfl (fun w' hbw => ?_) ?_; rotate_left; ((try dsimp only at hbw); have hbc := (bcell hbw).1; have hbf := (bcell hbw).2; go_simp; first | done | with_reducible rfl | exact callsBB (eqCellS_t _ _ _ _ _ _ f2 _ (R1.out.below hbw) (R2.out.below hbw) L1.out L2.out hm1) rfl hbw); simp only [List.setIfInBounds_toArray, List.set_cons_zero, List.set_cons_succ]))); refine wpQuiet_nil ?_; intro wq hbq)
      go_wp2_with fail
      exact ⟨⟨j + 1, by omega, by go_num, (by (repeat (first | with_reducible exact Below.refl _ _ | with_reducible assumption | with_reducible apply bel_alloc | with_reducible apply bel_drew | with_reducible apply bel_drewN | ((with_reducible refine bel_set ?_ ?_); rotate_left; (simp <;> omega)) | (with_reducible refine bel_trans ?_ (by with_reducible assumption)))))⟩, by simp [intOf]; omega⟩
    · have hj1 : ¬ (j : Int) < (n2 : Int) := by omega
      go_wp2
      go_ret
      exact ⟨rfl, hb⟩
end Go.Proofs.YteelmhmdnljjnaaGreat
