/- Texts of this claim, one behind the other: part 4. -/
import Derived.Test.YtglilkneipfheaaU3FnSites
import Derived.Outline
import Derived.WalkLawsBesides
import Derived.WalkSpells
import Derived.BigQuiet
import Derived.Deep.QuietTactic
import Derived.Deep.RegionHeld3
import Derived.Deep.RegionWith
import Derived.Deep.DeepCutAuto
import Derived.Deep.CutBlock
import Derived.Deep.DrawnRows
import Derived.Laws.BytesArg
import Derived.Laws.BitsLemmas
/- All shapes of some cells: the program. -/
namespace Go.Proofs.Ytglilkneipfheaa
open Go.RowKit
set_option linter.unusedVariables false
attribute [local go_sem ↓] Go.wp_at_zero Go.wp_at_succ

theorem RdF.grown {w w' : World} {A : Option Addr} {n : Nat} {hs : List H} {F : List (List C)} (h : RdF w A n hs F) {D : Option Addr} {q cq base sz : Nat} {vs : List Value} (ho : w.ownsRow base 30 sz (.slice D q cq) q vs)
    (hg : w.grownBy w' (ob D)) (hn : ∀ g, ob A = some g → ob D ≠ some g) : RdF w' A n hs F :=
  ⟨h.top.grown hg (fun g e r => hn g e r.symm), h.hlen, h.flen, fun i x f a b => (h.row i x f a b).grown hg (fun g e => (h.row i x f a b).apart ho g e)⟩
theorem pow32 (k : Nat) (h : k ≤ 4) : 32 ^ k ≤ 1048576 := by
  have : 32 ^ k ≤ 32 ^ 4 := Nat.pow_le_pow_right (by omega) h
  simpa using this
set_option maxRecDepth 100000 in
set_option maxHeartbeats 3200000 in
theorem grown_i (n : Nat) (w : World) (hn1 : 1 ≤ n) (hn6 : n ≤ 6) : Calls Try.prog 88 #[.int .i64 (n : Int)] w (RetF w (fixV (n - 1))) := by
  have hini : OwnF w.heap.size ((w.alloc (.cells #[.int .i64 0, .int .i64 0] 59)).alloc (.cells #[.slice (some ⟨w.heap.size, 0, none⟩) 1 1] 30)) (some ⟨w.heap.size + 1, 0, none⟩) 1 1 [(some ⟨w.heap.size, 0, none⟩, 1, 1)] (fixV 0) := by
    refine ⟨?_, rfl, fun i x f h1 h2 => ?_⟩
    · have := own_new (w.alloc (.cells #[.int .i64 0, .int .i64 0] 59)) 30 1 1 #[.slice (some ⟨w.heap.size, 0, none⟩) 1 1] rfl (by simp [maxLen]) (base := w.heap.size) (by simp)
      simpa [vS, hd] using this
    · have hi : i = 0 := by have := (List.getElem?_eq_some_iff.1 h1).1; simp at this; exact this
      subst hi
      simp at h1
      simp [fixV] at h2
      subst h1 h2
      have := (own_new w 59 2 1 #[.int .i64 0, .int .i64 0] rfl (by simp [maxLen]) (base := w.heap.size) (Nat.le_refl _)).alloc (.cells #[.slice (some ⟨w.heap.size, 0, none⟩) 1 1] 30)
      exact CRow.of_own (by simpa [vC] using this)
  have HI := Lib.hid hini
  clear hini
  go_enter Try.func88, Try.ntmps88
  go_wp2
  go_loopw [4, 3] (fun e4 e3 wr => ∃ (k m c : Nat) (A : Option Addr) (hs : List H), 1 ≤ k ∧ k ≤ n ∧ e4 = .int .i64 k ∧ e3 = .slice A m c ∧ OwnF w.heap.size wr A m c hs (fixV (k - 1)) ∧ Below w.heap.size w wr) (fun e4 _ _ => n - (intOf e4).toNat)
  case atStart => exact ⟨1, 1, 1, _, _, Nat.le_refl _, hn1, by simp, by simp, HI.out, (by (repeat (first | with_reducible exact Below.refl _ _ | with_reducible assumption | with_reducible apply bel_alloc | with_reducible apply bel_drew | with_reducible apply bel_drewN | ((with_reducible refine bel_set ?_ ?_); rotate_left; (simp <;> omega)) | (with_reducible refine bel_trans ?_ (by with_reducible assumption)))))⟩
  case round =>
    obtain ⟨k, m, c, A, hs, hk1, hkn, rfl, rfl, hO, hb⟩ := hrel
    obtain ⟨v, hv⟩ : ∃ v, v = wr := ⟨_, rfl⟩
    subst hv
    by_cases hlt : k < n
    · have hkI : (k : Int) < (n : Int) := by omega
      obtain ⟨k0, hk0⟩ : ∃ k0, k = k0 + 1 := ⟨k - 1, by omega⟩
      have hkk : k - 1 = k0 := by omega
      rw [hkk] at hO
      have HNX : Hid (fixV (k + 1 - 1) = growN (fixV k0) m) := by show fixV (k + 1 - 1) = _; rw [Nat.add_sub_cancel, hk0, ← hO.flen]; rfl
      have hml : m ≤ 1048576 := by have h1 := fixV_len k0; have h2 := pow32 k0 (by omega); rw [hO.flen] at h1; omega
      have hsh := (fixV_fine k0).2
      obtain ⟨F, hF⟩ : ∃ F, fixV k0 = F := ⟨_, rfl⟩
      rw [hF] at hO hsh
      rw [hF] at HNX
      have HO := Lib.hid hO
      have HFL := Lib.hid hO.flen
      have HSH := Lib.hid hsh
      have HKK := Lib.hid hk0
      have hbz := hb.size
      clear hO hF hsh hk0 hkk
      go_wp2
      go_loopw [20, 5] (fun e20 e5 wr2 => ∃ (i q cq : Nat) (D : Option Addr) (hs2 : List H), i ≤ m ∧ e20 = .int .i64 i ∧ e5 = .slice D q cq ∧ OwnF v.heap.size wr2 D q cq hs2 (growN F i) ∧ Below v.heap.size v wr2) (fun e20 _ _ => m - (intOf e20).toNat)
      case atStart => exact ⟨0, 0, 0, none, [], Nat.zero_le _, rfl, rfl, OwnF.nil _ _, Below.refl _ _⟩
      case round =>
        obtain ⟨i, q, cq, D, hs2, hi, rfl, rfl, hO2, hb2⟩ := hrel
        by_cases him : i < m
        · have hi0 : (0 : Int) ≤ (i : Int) := by omega
          have hi1 : (i : Int) < (m : Int) := by omega
          have hRF := (HO.out.below hb2).rd
          obtain ⟨x, t, g, off, hsx, hfx, hAe, hg, d1, hrow⟩ := hRF.at_ him
          have htsh := HSH.out t (List.mem_of_getElem? hfx)
          have hiF : i < F.length := by rw [HFL.out]; exact him
          have hgs := growN_succ F i hiF
          rw [show F[i] = t from by rw [List.getElem?_eq_getElem hiF] at hfx; injection hfx] at hgs
          have hgl := growN_len F HSH.out i (by omega)
          have hgf := growN_fine F i (by omega)
          obtain ⟨C1, m1, k1⟩ := x
          have hl1 : t.length = m1 := hrow.1
          obtain ⟨G0, hG0⟩ : ∃ G0, growN F i = G0 := ⟨_, rfl⟩
          rw [hG0] at hgs hgl hgf hO2
          have HL1 := Lib.hid hl1
          have HT := Lib.hid htsh
          have HROW := Lib.hid hrow
          have HGS := Lib.hid hgs
          have HGF := Lib.hid hgf
          have HO2 := Lib.hid hO2
          have hql : q ≤ 32 * i := by rw [← hO2.flen]; exact hgl
          have hDlt := own_lt hO2.own
          have HDL := Lib.hid hDlt
          dsimp only at d1
          subst hAe
          clear hsx hfx hrow htsh hgs hgf hgl hO2 hG0 hl1 hRF hDlt
          go_wp2_with fail
          refine (extensions_i C1 m1 k1 t _ HROW.out.2.1 HL1.out HT.out).mono ?_
          rintro e w1 ⟨E, me, ce, hsE, rfl, hoE, hb3⟩
          have hel : me ≤ 32 := by rw [← hoE.flen]; have h1 := extV_len t; have h2 := (shape_len HT.out).2; omega
          have HRE := Lib.hid hoE.rd
          have HEL := Lib.hid (own_lt hoE.own)
          have HFE := Lib.hid hoE.flen
          have HO3 := Lib.hid (HO2.out.below hb3)
          have hb23 : Below v.heap.size v w1 := bel_trans hb2 hb3
          have HSEP : Hid (∀ g, ob D = some g → ob E ≠ some g) := fun g e r => by have h1 := (HDL.out g e).2; have h2 := (HEL.out g r).1; omega
          clear hoE HO2 HROW hb2 hb3 d1
          go_wp2_with fail
          go_loopw [27, 5] (fun e27 e5 wr3 => ∃ (j q cq : Nat) (D : Option Addr) (hs2 : List H) (G : List (List C)), j ≤ me ∧ e27 = .int .i64 j ∧ e5 = .slice D q cq ∧ G = ((extV t).take j).foldl (putG ltS) G0 ∧ OwnF v.heap.size wr3 D q cq hs2 G ∧ FineF G ∧ G.length ≤ 32 * i + j ∧ RdF wr3 E me hsE (extV t) ∧ (∀ g, ob D = some g → ob E ≠ some g) ∧ Below v.heap.size v wr3) (fun e27 _ _ => me - (intOf e27).toNat)
          case atStart => exact ⟨0, q, cq, D, hs2, G0, Nat.zero_le _, rfl, rfl, rfl, HO3.out, HGF.out, by rw [HO3.out.flen]; omega, HRE.out, HSEP.out, hb23⟩
          case round =>
            clear HSEP HO3 HRE HDL hb23 hg
            obtain ⟨j, q, cq, D, hs2, G, hj, rfl, rfl, hG, hO, hfi, hgl, hre, hsep, hb3⟩ := hrel
            by_cases hjm : j < me
            · have hj0 : (0 : Int) ≤ (j : Int) := by omega
              have hj1 : (j : Int) < (me : Int) := by omega
              obtain ⟨x, s2, g2, o2, hsx, hfx, hEe, hg2, d1, hrow⟩ := hre.at_ hjm
              have hs2sh := (extTo_fine sidesV t t.length).2 s2 (List.mem_of_getElem? hfx)
              have hjE : j < (extV t).length := by rw [HFE.out]; exact hjm
              have hstep : ((extV t).take (j + 1)).foldl (putG ltS) G0 = putG ltS G s2 := by
                rw [List.take_succ_eq_append_getElem hjE, List.foldl_append, ← hG, show (extV t)[j] = s2 from by rw [List.getElem?_eq_getElem hjE] at hfx; injection hfx]
                rfl
              obtain ⟨B, m2, k2⟩ := x
              have hl2 : s2.length = m2 := hrow.1
              have hm28 : m2 ≤ 8 := by have := (shape_len hs2sh).2; omega
              have hqG : q ≤ 32 * i + j := by rw [← hO.flen]; exact hgl
              have HQL := Lib.hid hO.flen
              have HO := Lib.hid hO
              have HFI := Lib.hid hfi
              have HRE := Lib.hid hre
              have HSEP := Lib.hid hsep
              have HROW := Lib.hid hrow
              have HS2 := Lib.hid hs2sh
              have HST := Lib.hid hstep
              have HPB : Hid (putB ltS G s2 = putG ltS G s2) := putB_eq ltS_sto hfi.1 s2
              dsimp only at d1
              have HEE := Lib.hid hEe
              subst hEe
              clear hG hO hfi hre hsep hsx hfx hrow hs2sh hstep hl2 hgl
              go_wp2_with fail
              refine (putShape_i D q cq hs2 G B m2 k2 s2 v.heap.size _ HO.out HROW.out HFI.out.1 (fun x hx => by have := HFI.out.len x hx; omega) (by omega) (by omega) hb3.size).mono ?_
              rw [HPB.out, ← HST.out]
              rintro e w8 ⟨D3, q3, c3, hs3, rfl, hO8, hg8, hD8⟩
              have HO8 := Lib.hid hO8
              have hq8 : q3 ≤ 32 * i + (j + 1) := by
                rw [← hO8.flen, HST.out]
                have := putG_len (lt := ltS) G s2
                have := HQL.out
                omega
              have HFL8 : Hid ((((extV t).take (j + 1)).foldl (putG ltS) G0).length ≤ 32 * i + (j + 1)) := by show _ ≤ _; rw [hO8.flen]; exact hq8
              have HRE8 := Lib.hid (HRE.out.grown HO.out.own hg8 (fun g e r => HSEP.out g r e))
              have HB8 : Hid (Below v.heap.size v w8) := bel_app hb3 hg8 (fun g e => (own_lt HO.out.own g e).1)
              have HF8 : Hid (FineF (((extV t).take (j + 1)).foldl (putG ltS) G0)) := by show FineF _; rw [HST.out]; exact HFI.out.put HS2.out
              have HSEP8 : Hid (∀ g, ob D3 = some g → ob (some (⟨g2, o2, none⟩ : Addr)) ≠ some g) := fun g e r => by
                rcases hD8 g e with h1 | h1
                · exact HSEP.out g h1 r
                · simp only [ob, Option.map_some, Option.some.injEq] at r; omega
              clear hO8 hg8 hD8
              go_wp2_with fail
              exact ⟨⟨j + 1, q3, c3, D3, hs3, _, by omega, by go_num, rfl, rfl, HO8.out, HF8.out, HFL8.out, HRE8.out, HSEP8.out, HB8.out⟩, by simp [intOf]; omega⟩
            · obtain rfl : j = me := by omega
              have hGe : growN F (i + 1) = G := by rw [HGS.out, hG, List.take_of_length_le (by rw [HFE.out]; omega)]
              rw [← hGe] at hO
              have HO := Lib.hid hO
              have hj1 : ¬ (j : Int) < (j : Int) := by omega
              clear hO hG hGe hre hsep
              go_wp2_with fail
              exact ⟨⟨i + 1, q, cq, D, hs2, by omega, by go_num, rfl, HO.out, hb3⟩, by simp [intOf]; omega⟩
        · obtain rfl : i = m := by omega
          rw [← HNX.out] at hO2
          have HO2 := Lib.hid (hO2.mono hbz)
          have hi1 : ¬ (i : Int) < (i : Int) := by omega
          clear hO2
          go_wp2_with fail
          exact ⟨⟨k + 1, q, cq, D, hs2, by omega, by omega, by go_num, rfl, HO2.out, bel_trans hb hb2⟩, by simp [intOf]; omega⟩
    · obtain rfl : k = n := by omega
      have HO := Lib.hid hO
      have hkI : ¬ (k : Int) < (k : Int) := by omega
      clear hO
      go_wp2
      go_ret
      exact ⟨A, m, c, hs, rfl, HO.out, hb⟩
/-- All shapes of n cells, where n lies in the bounds. -/
def fixA (n : Int) : List (List C) := if 1 ≤ n ∧ n ≤ 5 then fixV (n.toNat - 1) else []
theorem FixedShapes_i (n : Int) (w : World) : Calls Try.prog 98 #[.int .i64 n] w (RetF w (fixA n)) := by
  by_cases h : 1 ≤ n ∧ n ≤ 5
  · obtain ⟨k, rfl⟩ : ∃ k : Nat, n = (k : Int) := ⟨n.toNat, by omega⟩
    have HV : Hid (fixA (k : Int) = fixV (k - 1)) := by show fixA _ = _; unfold fixA; rw [if_pos h]; simp
    have h1 : 1 ≤ k := by omega
    have h5 : k ≤ 6 := by omega
    have HB := Lib.hid h
    clear h
    go_enter Try.func98, Try.ntmps98
    go_wp2_with fail
    refine (between_t (k : Int) 1 5 _ HB.out.1 HB.out.2).mono ?_
    rintro e w1 ⟨rfl, hb1⟩
    go_wp2_with fail
    refine (grown_i k _ h1 h5).mono ?_
    rw [← HV.out]
    rintro e w2 ⟨A, m, c, hs, rfl, hO, hb2⟩
    have HO := Lib.hid (hO.mono hb1.size)
    clear hO
    go_wp2_with fail
    go_ret
    exact ⟨A, m, c, hs, rfl, HO.out, bel_trans hb1 hb2⟩
  · have HV : Hid (fixA n = []) := by show fixA _ = _; unfold fixA; rw [if_neg h]
    have HB := Lib.hid h
    clear h
    go_enter Try.func98, Try.ntmps98
    go_wp2_with fail
    refine (between_f n 1 5 _ HB.out).mono ?_
    rintro e w1 ⟨rfl, hb1⟩
    go_wp2_with fail
    go_ret
    exact ⟨none, 0, 0, [], rfl, by rw [HV.out]; exact OwnF.nil _ _, hb1⟩
def cntV (n hi : Int) : Int := if 1 ≤ n ∧ n ≤ hi then ((fixV (n.toNat - 1)).length : Nat) else -1
theorem CountByGrowth_i (n : Int) (w : World) : Calls Try.prog 42 #[.int .i64 n] w (Ret w (.int .i64 (cntV n 6))) := by
  by_cases h : 1 ≤ n ∧ n ≤ 6
  · obtain ⟨k, rfl⟩ : ∃ k : Nat, n = (k : Int) := ⟨n.toNat, by omega⟩
    have HV : Hid (cntV (k : Int) 6 = ((fixV (k - 1)).length : Nat)) := by show cntV _ _ = _; unfold cntV; rw [if_pos h]; simp
    have h1 : 1 ≤ k := by omega
    have h5 : k ≤ 6 := by omega
    have HB := Lib.hid h
    clear h
    go_enter Try.func42, Try.ntmps42
    go_wp2_with fail
    refine (between_t (k : Int) 1 6 _ HB.out.1 HB.out.2).mono ?_
    rintro e w1 ⟨rfl, hb1⟩
    go_wp2_with fail
    refine (grown_i k _ h1 h5).mono ?_
    rintro e w2 ⟨A, m, c, hs, rfl, hO, hb2⟩
    have hf := hO.flen
    have HF := Lib.hid hf
    clear hO hf
    go_wp2_with fail
    go_ret
    exact ⟨by rw [HV.out, HF.out]; rfl, bel_trans hb1 hb2⟩
  · have HV : Hid (cntV n 6 = -1) := by show cntV _ _ = _; unfold cntV; rw [if_neg h]
    have HB := Lib.hid h
    clear h
    go_enter Try.func42, Try.ntmps42
    go_wp2_with fail
    refine (between_f n 1 6 _ HB.out).mono ?_
    rintro e w1 ⟨rfl, hb1⟩
    go_wp2_with fail
    go_ret
    exact ⟨by rw [HV.out]; rfl, hb1⟩
theorem CountByRows_i (n : Int) (w : World) : Calls Try.prog 44 #[.int .i64 n] w (Ret w (.int .i64 (cntV n 4))) := by
  by_cases h : 1 ≤ n ∧ n ≤ 4
  · obtain ⟨k, rfl⟩ : ∃ k : Nat, n = (k : Int) := ⟨n.toNat, by omega⟩
    have HV : Hid (cntV (k : Int) 4 = ((fixV (k - 1)).length : Nat)) := by show cntV _ _ = _; unfold cntV; rw [if_pos h]; simp
    have h1 : 1 ≤ k := by omega
    have h5 : k ≤ 6 := by omega
    have HB := Lib.hid h
    clear h
    go_enter Try.func44, Try.ntmps44
    go_wp2_with fail
    refine (between_t (k : Int) 1 4 _ HB.out.1 HB.out.2).mono ?_
    rintro e w1 ⟨rfl, hb1⟩
    go_wp2_with fail
    refine (grown_i k _ h1 h5).mono ?_
    rintro e w2 ⟨A, m, c, hs, rfl, hO, hb2⟩
    have hf := hO.flen
    have HF := Lib.hid hf
    clear hO hf
    go_wp2_with fail
    go_ret
    exact ⟨by rw [HV.out, HF.out]; rfl, bel_trans hb1 hb2⟩
  · have HV : Hid (cntV n 4 = -1) := by show cntV _ _ = _; unfold cntV; rw [if_neg h]
    have HB := Lib.hid h
    clear h
    go_enter Try.func44, Try.ntmps44
    go_wp2_with fail
    refine (between_f n 1 4 _ HB.out).mono ?_
    rintro e w1 ⟨rfl, hb1⟩
    go_wp2_with fail
    go_ret
    exact ⟨by rw [HV.out]; rfl, hb1⟩
end Go.Proofs.Ytglilkneipfheaa

/- Shapes counted by growth: plain functions, the numbers up to six cells. No program is in sight. -/
namespace Go.Proofs.Ytglilkneipfheaa
open Go.RowKit
set_option linter.unusedVariables false
def okY (y : C) : Bool := decide (y.2 > 0) || (y.2 == 0 && decide (y.1 ≥ 0))
def stepM (mk : List C × List C) (y : C) : List C × List C := if okY y && !hasC mk.2 y.1 y.2 then (mk.1 ++ [y], mk.2 ++ [y]) else mk
def more4 (x : C) (more known : List C) (j : Nat) : List C × List C := ((sidesS x).take j).foldl stepM (more, known)
def growC : Nat → List C → List C → Nat
  | 0, u, _ => u.length
  | l + 1, u, s => ((List.range u.length).map fun k => 1 + growC l (more4 (u.getD k default) (u.take k) s 4).1 (more4 (u.getD k default) (u.take k) s 4).2).sum
def termC : Nat → List C → List C → Nat → Nat
  | 0, _, _, _ => 1
  | l + 1, u, s, k => 1 + growC l (more4 (u.getD k default) (u.take k) s 4).1 (more4 (u.getD k default) (u.take k) s 4).2
def growK (l : Nat) (u s : List C) (k : Nat) : Nat := ((List.range k).map (termC l u s)).sum
theorem growK_succ (l : Nat) (u s : List C) (k : Nat) : growK l u s (k + 1) = growK l u s k + termC l u s k := by
  unfold growK
  rw [List.range_succ, List.map_append, List.sum_append]
  simp
theorem growK_all (l : Nat) (u s : List C) : growK l u s u.length = growC l u s := by
  cases l with
  | zero =>
    have h : ∀ n, ((List.range n).map (termC 0 u s)).sum = n := by
      intro n
      induction n with
      | zero => rfl
      | succ n ih =>
        rw [List.range_succ, List.map_append, List.sum_append, ih]
        rfl
    exact h u.length
  | succ l => rfl
theorem more4_succ (x : C) (a b : List C) (j : Nat) (h : j < 4) : more4 x a b (j + 1) = stepM (more4 x a b j) ((sidesS x).getD j default) := by
  unfold more4
  have hl : j < (sidesS x).length := h
  rw [List.take_succ_eq_append_getElem hl, List.foldl_append, getD_in _ hl]
  rfl
theorem stepM_len (mk : List C × List C) (y : C) : (stepM mk y).1.length ≤ mk.1.length + 1 ∧ (stepM mk y).2.length ≤ mk.2.length + 1 := by
  unfold stepM
  split <;> simp
theorem more4_len (x : C) (a b : List C) : ∀ j, j ≤ 4 → (more4 x a b j).1.length ≤ a.length + j ∧ (more4 x a b j).2.length ≤ b.length + j
  | 0, _ => by simp [more4]
  | j + 1, h => by
    rw [more4_succ x a b j (by omega)]
    have h1 := more4_len x a b j (by omega)
    have h2 := stepM_len (more4 x a b j) ((sidesS x).getD j default)
    omega
def near0 (r : Int) (c : C) : Prop := -r ≤ c.1 ∧ c.1 ≤ r ∧ -r ≤ c.2 ∧ c.2 ≤ r
theorem sidesS_near {r : Int} {x : C} (h : near0 r x) : ∀ y ∈ sidesS x, near0 (r + 1) y := by
  intro y hy
  unfold near0 at h ⊢
  simp only [sidesS, List.mem_cons, List.not_mem_nil, or_false] at hy
  rcases hy with rfl | rfl | rfl | rfl <;> (simp only; omega)
theorem more4_near {r : Int} {x : C} {a b : List C} (hx : near0 r x) (ha : ∀ c ∈ a, near0 (r + 1) c) (hb : ∀ c ∈ b, near0 (r + 1) c) : ∀ j, j ≤ 4 → (∀ c ∈ (more4 x a b j).1, near0 (r + 1) c) ∧ (∀ c ∈ (more4 x a b j).2, near0 (r + 1) c)
  | 0, _ => ⟨ha, hb⟩
  | j + 1, h => by
    rw [more4_succ x a b j (by omega)]
    obtain ⟨h1, h2⟩ := more4_near hx ha hb j (by omega)
    have hy : near0 (r + 1) ((sidesS x).getD j default) := sidesS_near hx _ (getD_mem (show j < (sidesS x).length by show j < 4; omega))
    unfold stepM
    split
    · refine ⟨fun c hc => ?_, fun c hc => ?_⟩
      · rcases List.mem_append.1 hc with h3 | h3
        · exact h1 c h3
        · simp only [List.mem_singleton] at h3; rw [h3]; exact hy
      · rcases List.mem_append.1 hc with h3 | h3
        · exact h2 c h3
        · simp only [List.mem_singleton] at h3; rw [h3]; exact hy
    · exact ⟨h1, h2⟩
theorem sum_le (f : Nat → Nat) (B : Nat) : ∀ n, (∀ k, k < n → f k ≤ B) → ((List.range n).map f).sum ≤ n * B
  | 0, _ => by simp
  | n + 1, h => by
    rw [List.range_succ, List.map_append, List.sum_append]
    have := sum_le f B n (fun k hk => h k (by omega))
    have := h n (by omega)
    simp only [List.map_cons, List.map_nil, List.sum_cons, List.sum_nil, Nat.add_zero, Nat.add_mul, Nat.one_mul]
    omega
theorem growC_le : ∀ (l : Nat) (u s : List C), u.length + 4 * l ≤ 24 → growC l u s ≤ 25 ^ (l + 1)
  | 0, u, s, h => by simp [growC]; omega
  | l + 1, u, s, h => by
    unfold growC
    have hb : ∀ k, k < u.length → 1 + growC l (more4 (u.getD k default) (u.take k) s 4).1 (more4 (u.getD k default) (u.take k) s 4).2 ≤ 1 + 25 ^ (l + 1) := by
      intro k hk
      have h1 := (more4_len (u.getD k default) (u.take k) s 4 (Nat.le_refl _)).1
      rw [List.length_take] at h1
      have := growC_le l (more4 (u.getD k default) (u.take k) s 4).1 (more4 (u.getD k default) (u.take k) s 4).2 (by omega)
      omega
    have h2 := sum_le _ _ u.length hb
    have h3 : u.length ≤ 24 := by omega
    have h4 : u.length * (1 + 25 ^ (l + 1)) ≤ 24 * (1 + 25 ^ (l + 1)) := Nat.mul_le_mul_right _ h3
    have h5 : 25 ≤ 25 ^ (l + 1) := by have := Nat.pow_le_pow_right (show 0 < 25 by omega) (show 1 ≤ l + 1 by omega); simpa using this
    have h6 : 25 ^ (l + 1 + 1) = 25 * 25 ^ (l + 1) := by rw [Nat.pow_succ]; omega
    omega
/-- The reference's number. -/
def cntS (n : Nat) : Int := if n = 1 then (growC 0 [(0, 0)] [(0, 0)] : Nat) else (growC (n - 1) [(0, 0)] [(0, 0)] : Nat) - (growC (n - 2) [(0, 0)] [(0, 0)] : Nat)
/-- A list taken apart and put together again, so that the kernel has it at hand. -/
def frcI {β : Type} (x : Int) (k : Int → β) : β := match x with
  | .ofNat 0 => k 0
  | .ofNat (m + 1) => k (.ofNat (m + 1))
  | .negSucc 0 => k (.negSucc 0)
  | .negSucc (m + 1) => k (.negSucc (m + 1))
def frcS {β : Type} (s : List C) (k : List C → β) : β := match s with
  | [] => k []
  | a :: t => frcI a.1 fun x => frcI a.2 fun y => frcS t fun t' => k ((x, y) :: t')
def frcL {α β : Type} (l : List α) (k : List α → β) : β := match l with
  | [] => k []
  | a :: t => frcL t fun t' => k (a :: t')
theorem frcI_eq {β : Type} (x : Int) (k : Int → β) : frcI x k = k x := by unfold frcI; split <;> rfl
theorem frcS_eq {β : Type} : ∀ (s : List C) (k : List C → β), frcS s k = k s
  | [], k => rfl
  | a :: t, k => by unfold frcS; rw [frcI_eq, frcI_eq, frcS_eq t]
theorem frcL_eq {α β : Type} : ∀ (s : List α) (k : List α → β), frcL s k = k s
  | [], k => rfl
  | a :: t, k => by unfold frcL; rw [frcL_eq t]
/-- Put in its place, from the front. -/
def insL {α : Type} [DecidableEq α] (lt : α → α → Bool) : List α → α → List α
  | [], n => [n]
  | a :: t, n => if lt n a then n :: a :: t else if a = n then a :: t else a :: insL lt t n
theorem insL_inc {α : Type} [DecidableEq α] [Inhabited α] {lt : α → α → Bool} (hO : STO lt) (n : α) : ∀ {l : List α}, IncG lt l → IncG lt (insL lt l n) ∧ ∀ x, x ∈ insL lt l n ↔ x ∈ l ∨ x = n
  | [], _ => ⟨List.pairwise_singleton _ _, fun x => by simp [insL]⟩
  | a :: t, h => by
    obtain ⟨h1, h2⟩ := List.pairwise_cons.1 h
    unfold insL
    cases hna : lt n a with
    | true =>
      simp only [if_true]
      refine ⟨List.pairwise_cons.2 ⟨fun x hx => ?_, h⟩, fun x => by simp only [List.mem_cons]; exact ⟨fun hh => hh.elim .inr .inl, fun hh => hh.elim .inr .inl⟩⟩
      rcases List.mem_cons.1 hx with hx | hx
      · rw [hx]; exact hna
      · exact hO.trans hna (h1 x hx)
    | false =>
      simp only [Bool.false_eq_true, if_false]
      by_cases han : a = n
      · rw [if_pos han]
        exact ⟨h, fun x => ⟨.inl, fun hh => by rcases hh with hh | hh; exact hh; rw [hh, ← han]; exact List.mem_cons_self⟩⟩
      · rw [if_neg han]
        obtain ⟨i1, i2⟩ := insL_inc hO n h2
        have hlt : lt a n = true := by
          cases hc : lt a n with
          | true => rfl
          | false => exact absurd (hO.tot hc hna) han
        refine ⟨List.pairwise_cons.2 ⟨fun x hx => ?_, i1⟩, fun x => ?_⟩
        · rcases (i2 x).1 hx with hx | hx
          · exact h1 x hx
          · rw [hx]; exact hlt
        · simp only [List.mem_cons, i2 x]
          constructor
          · rintro (h | h | h)
            · exact .inl (.inl h)
            · exact .inl (.inr h)
            · exact .inr h
          · rintro ((h | h) | h)
            · exact .inl h
            · exact .inr (.inl h)
            · exact .inr (.inr h)
theorem insL_eq {l : List (List C)} (h : FineF l) (n : List C) : insL ltS l n = putG ltS l n := by
  obtain ⟨a1, a2⟩ := insL_inc ltS_sto n h.1
  obtain ⟨b1, b2⟩ := putG_inc ltS_sto h.1 n
  exact incG_eq ltS_sto _ _ a1 b1 fun x => by rw [a2, b2]
def extL (s : List C) : List (List C) → List C → List (List C)
  | acc, [] => acc
  | acc, d :: t => if hasC s d.1 d.2 then extL s acc t else frcS (cornI (s ++ [d])) fun c => if isShape c then frcL (insL ltS acc c) fun acc' => extL s acc' t else extL s acc t
theorem extL_eq (s : List C) : ∀ (l : List C) {acc : List (List C)}, FineF acc → extL s acc l = l.foldl (extStep s) acc
  | [], acc, _ => rfl
  | d :: t, acc, h => by
    rw [List.foldl_cons]
    unfold extL
    cases h1 : hasC s d.1 d.2 with
    | true =>
      have he : extStep s acc d = acc := by unfold extStep; rw [h1]; rfl
      rw [he, if_pos rfl]
      exact extL_eq s t h
    | false =>
      rw [if_neg (by simp), frcS_eq]
      cases h2 : isShape (cornI (s ++ [d])) with
      | true =>
        have he : extStep s acc d = putG ltS acc (cornI (s ++ [d])) := by unfold extStep; rw [h1, h2]; rfl
        rw [he, if_pos rfl, frcL_eq, insL_eq h]
        exact extL_eq s t (h.put h2)
      | false =>
        have he : extStep s acc d = acc := by unfold extStep; rw [h1, h2]; rfl
        rw [he, if_neg (by simp)]
        exact extL_eq s t h
def putsF : List (List C) → List (List C) → List (List C)
  | [], acc => acc
  | a :: t, acc => frcL (insL ltS acc a) fun acc' => putsF t acc'
theorem putsF_eq : ∀ (l acc : List (List C)), FineF acc → (∀ x ∈ l, isShape x = true) → putsF l acc = l.foldl (putG ltS) acc
  | [], acc, _, _ => rfl
  | a :: t, acc, h, hl => by
    unfold putsF
    rw [frcL_eq, insL_eq h, putsF_eq t _ (h.put (hl a (by simp))) (fun x hx => hl x (by simp [hx]))]
    rfl
def growF : List (List C) → List (List C) → List (List C)
  | [], acc => acc
  | s :: t, acc => frcL (putsF (extL s [] (s.flatMap sidesV)) acc) fun acc' => growF t acc'
theorem extL_V (s : List C) : extL s [] (s.flatMap sidesV) = extV s := by
  rw [extL_eq s _ FineF.nil]
  unfold extV extTo
  rw [List.take_length]
theorem growF_eq : ∀ (F acc : List (List C)), FineF acc → growF F acc = F.foldl (fun acc s => (extV s).foldl (putG ltS) acc) acc
  | [], acc, _ => rfl
  | s :: t, acc, h => by
    unfold growF
    have hx : ∀ x ∈ extV s, isShape x = true := (extTo_fine sidesV s s.length).2
    rw [frcL_eq, extL_V, putsF_eq _ _ h hx, growF_eq t _ (h.puts hx)]
    rfl
def fixF : Nat → List (List C)
  | 0 => [[(0, 0)]]
  | k + 1 => frcL (fixF k) fun F => growF F []
theorem fixF_eq : ∀ k, fixF k = fixV k
  | 0 => rfl
  | k + 1 => by
    unfold fixF fixV
    rw [frcL_eq, fixF_eq k, growF_eq _ _ FineF.nil, growN, List.take_length]
end Go.Proofs.Ytglilkneipfheaa

/- All shapes of some cells: the reference. -/
namespace Go.Proofs.Ytglilkneipfheaa
open Go.RowKit
set_option linter.unusedVariables false
attribute [local go_sem ↓] Go.wp_at_zero Go.wp_at_succ

theorem fix_short (k : Nat) (h : k ≤ 3) : ∀ x ∈ fixV k, x.length ≠ 8 := by
  have hf : ∀ x ∈ fixF k, x.length ≠ 8 := by
    rcases (by omega : k = 0 ∨ k = 1 ∨ k = 2 ∨ k = 3) with rfl | rfl | rfl | rfl <;> decide +kernel
  rw [fixF_eq] at hf
  exact hf
theorem extR_fix {k : Nat} (h : k ≤ 3) {t : List C} (ht : t ∈ fixV k) : extR t = extV t := by
  unfold extR
  exact if_pos ⟨(fixV_fine k).2 t ht, fix_short k h t ht⟩
theorem own_some {w : World} {base e n c : Nat} {A : Option Addr} {xs : List Value} (h : w.ownsRow base e 1 (.slice A (n + 1) c) (n + 1) xs) : ∃ g, A = some ⟨g, 0, none⟩ := by
  rcases h.2 with ⟨hv, _⟩ | ⟨g', cap, cur, hv, _⟩
  · injection hv with _ h2 _; omega
  · injection hv with h1 _ _; exact ⟨g', h1⟩
set_option maxRecDepth 100000 in
set_option maxHeartbeats 6400000 in
theorem FixedShapes_s (n : Int) (w : World) : Calls Try.prog 36 #[.int .i64 n] w (RetFA w (fixA n)) := by
  have hini : (w.alloc (.cells #[] 30)).ownsRow w.heap.size 30 1 (.slice (some ⟨w.heap.size, 0, none⟩) 0 0) 0 [] := own_new w _ 1 0 #[] rfl (by simp [maxLen]) (Nat.le_refl _)
  have HI := Lib.hid (OwnF.none_ hini)
  clear hini
  by_cases h : 1 ≤ n ∧ n ≤ 5
  · obtain ⟨n, rfl⟩ : ∃ k : Nat, n = (k : Int) := ⟨n.toNat, by omega⟩
    have HV : Hid (fixA (n : Int) = fixV (n - 1)) := by show fixA _ = _; unfold fixA; rw [if_pos h]; simp
    have hn1 : 1 ≤ n := by omega
    have hn5 : n ≤ 5 := by omega
    have HB := Lib.hid h
    clear h
    go_enter Try.func36, Try.ntmps36
    go_wp2_with fail
    refine (l1In_t (n : Int) 1 5 _ HB.out.1 HB.out.2).mono ?_
    rintro e w1 ⟨rfl, hb1⟩
    have HI1 := Lib.hid (HI.out.below hb1)
    have hbw1 : Below w.heap.size w w1 := bel_trans (bel_alloc (Below.refl _ _) _) hb1
    have hz1 := hb1.size
    simp only [World.size_alloc] at hz1
    have HRN : Hid (Rd ((w1.alloc (.cells #[.int .i64 0, .int .i64 0] 59)).alloc (.cells #[.slice (some ⟨w1.heap.size, 0, none⟩) 1 1] 30)) (some ⟨w1.heap.size + 1, 0, none⟩) (vS [(some ⟨w1.heap.size, 0, none⟩, 1, 1)])) := by
      have := rd_newS (w1.alloc (.cells #[.int .i64 0, .int .i64 0] 59)) 30 (some ⟨w1.heap.size, 0, none⟩, 1, 1)
      exact Lib.hid (by simpa [hd] using this)
    go_wp2_with (at_builtin; go_must (refine app_F _ rfl _ _ rfl w.heap.size _ 0 0 [] rfl ((HI1.out.own.alloc _).alloc _) _ _ _ [(some ⟨w1.heap.size, 0, none⟩, 1, 1)] rfl HRN.out rfl (by omega) (by simp; omega) ?_); intro A3 c3 w3 ho3 hg3 _; have HO3 := Lib.hid ho3; have HG3 := Lib.hid hg3; clear ho3 hg3)
    obtain ⟨g3, hA3⟩ := own_some HO3.out
    subst hA3
    have hbw3 : Below w.heap.size w w3 := bel_app (bel_alloc (bel_alloc hbw1 _) _) HG3.out (fun g e => (own_lt HI1.out.own g e).1)
    have hini : OwnF w.heap.size w3 (some ⟨g3, 0, none⟩) 1 c3 [(some ⟨w1.heap.size, 0, none⟩, 1, 1)] (fixV 0) := by
      refine ⟨HO3.out, rfl, fun i x f h1 h2 => ?_⟩
      have hi : i = 0 := by have := (List.getElem?_eq_some_iff.1 h1).1; simp at this; exact this
      subst hi
      simp at h1
      simp [fixV] at h2
      subst h1 h2
      have hc : CRow ((w1.alloc (.cells #[.int .i64 0, .int .i64 0] 59)).alloc (.cells #[.slice (some ⟨w1.heap.size, 0, none⟩) 1 1] 30)) (some ⟨w1.heap.size, 0, none⟩, 1, 1) [(0, 0)] :=
        CRow.of_own (by simpa [vC] using (own_new w1 59 2 1 #[.int .i64 0, .int .i64 0] rfl (by simp [maxLen]) (base := w.heap.size) hbw1.size).alloc (.cells #[.slice (some ⟨w1.heap.size, 0, none⟩) 1 1] 30))
      exact hc.grown HG3.out (fun g e r => by simp [ob] at e r; omega)
    have HI3 := Lib.hid hini
    clear hini
    go_loopw [4, 3] (fun e4 e3 wr => ∃ (k m c g : Nat) (hs : List H), 1 ≤ k ∧ k ≤ n ∧ e4 = .int .i64 k ∧ e3 = .slice (some ⟨g, 0, none⟩) m c ∧ OwnF w.heap.size wr (some ⟨g, 0, none⟩) m c hs (fixV (k - 1)) ∧ Below w.heap.size w wr) (fun e4 _ _ => n - (intOf e4).toNat)
    case atStart => exact ⟨1, 1, _, _, _, Nat.le_refl _, hn1, rfl, rfl, HI3.out, hbw3⟩
    case round =>
      clear HRN HI HI1 HO3 HG3 HI3 hbw3 hbw1 hb1 hz1
      obtain ⟨k, m, c, gA, hs, hk1, hkn, rfl, rfl, hO, hb⟩ := hrel
      obtain ⟨v, hv⟩ : ∃ v, v = wr := ⟨_, rfl⟩
      subst hv
      by_cases hlt : k < n
      · have hkI : (k : Int) < (n : Int) := by omega
        obtain ⟨k0, hk0⟩ : ∃ k0, k = k0 + 1 := ⟨k - 1, by omega⟩
        have hkk : k - 1 = k0 := by omega
        rw [hkk] at hO
        have HNX : Hid (fixV (k + 1 - 1) = growN (fixV k0) m) := by show fixV (k + 1 - 1) = _; rw [Nat.add_sub_cancel, hk0, ← hO.flen]; rfl
        have hml : m ≤ 1048576 := by have h1 := fixV_len k0; have h2 := pow32 k0 (by omega); rw [hO.flen] at h1; omega
        have hsh := (fixV_fine k0).2
        have hxr := fun t => extR_fix (k := k0) (by omega) (t := t)
        obtain ⟨F, hF⟩ : ∃ F, fixV k0 = F := ⟨_, rfl⟩
        rw [hF] at hO hsh hxr
        rw [hF] at HNX
        have HO := Lib.hid hO
        have HFL := Lib.hid hO.flen
        have HSH := Lib.hid hsh
        have HXR := Lib.hid hxr
        have HKK := Lib.hid hk0
        have hbz := hb.size
        have HN0 : Hid (OwnF v.heap.size (v.alloc (.cells #[] 30)) (some ⟨v.heap.size, 0, none⟩) 0 0 [] []) := OwnF.none_ (own_new v 30 1 0 #[] rfl (by simp [maxLen]) (Nat.le_refl _))
        clear hO hF hsh hk0 hkk hxr
        go_wp2_with fail
        go_loopw [6, 5] (fun e6 e5 wr2 => ∃ (i q cq g : Nat) (hs2 : List H), i ≤ m ∧ e6 = .int .i64 i ∧ e5 = .slice (some ⟨g, 0, none⟩) q cq ∧ OwnF v.heap.size wr2 (some ⟨g, 0, none⟩) q cq hs2 (growN F i) ∧ Below v.heap.size v wr2) (fun e6 _ _ => m - (intOf e6).toNat)
        case atStart => exact ⟨0, 0, 0, _, [], Nat.zero_le _, rfl, rfl, HN0.out, bel_alloc (Below.refl _ _) _⟩
        case round =>
          clear HN0
          obtain ⟨i, q, cq, gD, hs2, hi, rfl, rfl, hO2, hb2⟩ := hrel
          by_cases him : i < m
          · have hi0 : (0 : Int) ≤ (i : Int) := by omega
            have hi1 : (i : Int) < (m : Int) := by omega
            have hRF := (HO.out.below hb2).rd
            obtain ⟨x, t, g, off, hsx, hfx, hAe, hg, d1, hrow⟩ := hRF.at_ him
            have htsh := HSH.out t (List.mem_of_getElem? hfx)
            have hxr := HXR.out t (List.mem_of_getElem? hfx)
            have hiF : i < F.length := by rw [HFL.out]; exact him
            have hgs := growN_succ F i hiF
            rw [show F[i] = t from by rw [List.getElem?_eq_getElem hiF] at hfx; injection hfx] at hgs
            have hgl := growN_len F HSH.out i (by omega)
            have hgf := growN_fine F i (by omega)
            obtain ⟨C1, m1, k1⟩ := x
            have hl1 : t.length = m1 := hrow.1
            have hm8 : m1 ≤ 1048576 := by have := (shape_len htsh).2; omega
            obtain ⟨G0, hG0⟩ : ∃ G0, growN F i = G0 := ⟨_, rfl⟩
            rw [hG0] at hgs hgl hgf hO2
            have HL1 := Lib.hid hl1
            have HT := Lib.hid htsh
            have HROW := Lib.hid hrow
            have HGS := Lib.hid hgs
            have HGF := Lib.hid hgf
            have HO2 := Lib.hid hO2
            have HXT := Lib.hid hxr
            have hql : q ≤ 32 * i := by rw [← hO2.flen]; exact hgl
            dsimp only at d1
            cases hAe
            simp only [Nat.zero_add] at d1
            clear hsx hfx hrow htsh hgs hgf hgl hO2 hG0 hl1 hRF hxr
            go_wp2_with fail
            refine (ExtensionsOf_s C1 m1 k1 t _ HROW.out.2.1 HL1.out hm8).mono ?_
            rw [HXT.out]
            rintro e w1 ⟨gE, me, ce, hsE, rfl, hoE, hb3⟩
            have hel : me ≤ 32 := by rw [← hoE.flen]; have h1 := extV_len t; have h2 := (shape_len HT.out).2; omega
            have HRE := Lib.hid hoE.rd
            have HFE := Lib.hid hoE.flen
            have HO3 := Lib.hid (HO2.out.below hb3)
            have hb23 : Below v.heap.size v w1 := bel_trans hb2 hb3
            clear hoE HO2 HROW hb2 hb3 d1
            go_wp2_with fail
            go_loopw [8, 5] (fun e8 e5 wr3 => ∃ (j q cq g : Nat) (hs2 : List H) (G : List (List C)), j ≤ me ∧ e8 = .int .i64 j ∧ e5 = .slice (some ⟨g, 0, none⟩) q cq ∧ G = ((extV t).take j).foldl (putG ltS) G0 ∧ OwnF v.heap.size wr3 (some ⟨g, 0, none⟩) q cq hs2 G ∧ FineF G ∧ G.length ≤ 32 * i + j ∧ RdF wr3 (some ⟨gE, 0, none⟩) me hsE (extV t) ∧ Below v.heap.size v wr3) (fun e8 _ _ => me - (intOf e8).toNat)
            case atStart => exact ⟨0, q, cq, gD, hs2, G0, Nat.zero_le _, rfl, rfl, rfl, HO3.out, HGF.out, by rw [HO3.out.flen]; omega, HRE.out, hb23⟩
            case round =>
              clear HO3 HRE hb23 hg
              obtain ⟨j, q, cq, gD, hs2, G, hj, rfl, rfl, hG, hO, hfi, hgl, hre, hb3⟩ := hrel
              by_cases hjm : j < me
              · have hj0 : (0 : Int) ≤ (j : Int) := by omega
                have hj1 : (j : Int) < (me : Int) := by omega
                obtain ⟨x, s2, g2, o2, hsx, hfx, hEe, hg2, d1, hrow⟩ := hre.at_ hjm
                have hs2sh := (extTo_fine sidesV t t.length).2 s2 (List.mem_of_getElem? hfx)
                have hjE : j < (extV t).length := by rw [HFE.out]; exact hjm
                have hstep : ((extV t).take (j + 1)).foldl (putG ltS) G0 = putG ltS G s2 := by
                  rw [List.take_succ_eq_append_getElem hjE, List.foldl_append, ← hG, show (extV t)[j] = s2 from by rw [List.getElem?_eq_getElem hjE] at hfx; injection hfx]
                  rfl
                obtain ⟨B, m2, k2⟩ := x
                have hl2 : s2.length = m2 := hrow.1
                have hm28 : m2 ≤ 8 := by have := (shape_len hs2sh).2; omega
                have hqG : q ≤ 32 * i + j := by rw [← hO.flen]; exact hgl
                have HQL := Lib.hid hO.flen
                have HO := Lib.hid hO
                have HFI := Lib.hid hfi
                have HRE := Lib.hid hre
                have HROW := Lib.hid hrow
                have HS2 := Lib.hid hs2sh
                have HST := Lib.hid hstep
                dsimp only at d1
                cases hEe
                simp only [Nat.zero_add] at d1
                clear hG hO hfi hre hsx hfx hrow hs2sh hstep hl2 hgl
                go_wp2_with fail
                refine (l3Put_s gD q cq hs2 G B m2 k2 s2 v.heap.size _ HO.out HROW.out (fun x hx => by have := HFI.out.len x hx; omega) (by omega) (by omega) hb3.size).mono ?_
                rw [← HST.out]
                rintro e w8 ⟨g3, q3, c3, hs3, rfl, hO8, hb8⟩
                have HO8 := Lib.hid hO8
                have hq8 : q3 ≤ 32 * i + (j + 1) := by
                  rw [← hO8.flen, HST.out]
                  have := putG_len (lt := ltS) G s2
                  have := HQL.out
                  omega
                have HFL8 : Hid ((((extV t).take (j + 1)).foldl (putG ltS) G0).length ≤ 32 * i + (j + 1)) := by show _ ≤ _; rw [hO8.flen]; exact hq8
                have HRE8 := Lib.hid (HRE.out.below hb8)
                have HF8 : Hid (FineF (((extV t).take (j + 1)).foldl (putG ltS) G0)) := by show FineF _; rw [HST.out]; exact HFI.out.put HS2.out
                have HB8 := Lib.hid (bel_trans hb3 hb8)
                clear hO8 hb8
                go_wp2_with fail
                exact ⟨⟨j + 1, q3, c3, g3, hs3, _, by omega, by go_num, rfl, rfl, HO8.out, HF8.out, HFL8.out, HRE8.out, HB8.out⟩, by simp [intOf]; omega⟩
              · obtain rfl : j = me := by omega
                have hGe : growN F (i + 1) = G := by rw [HGS.out, hG, List.take_of_length_le (by rw [HFE.out]; omega)]
                rw [← hGe] at hO
                have HO := Lib.hid hO
                have hj1 : ¬ (j : Int) < (j : Int) := by omega
                clear hO hG hGe hre
                go_wp2_with fail
                exact ⟨⟨i + 1, q, cq, gD, hs2, by omega, by go_num, rfl, HO.out, hb3⟩, by simp [intOf]; omega⟩
          · obtain rfl : i = m := by omega
            rw [← HNX.out] at hO2
            have HO2 := Lib.hid (hO2.mono hbz)
            have hi1 : ¬ (i : Int) < (i : Int) := by omega
            clear hO2
            go_wp2_with fail
            exact ⟨⟨k + 1, q, cq, gD, hs2, by omega, by omega, by go_num, rfl, HO2.out, bel_trans hb hb2⟩, by simp [intOf]; omega⟩
      · obtain rfl : k = n := by omega
        rw [← HV.out] at hO
        have HO := Lib.hid hO
        have hkI : ¬ (k : Int) < (k : Int) := by omega
        clear hO
        go_wp2_with fail
        go_ret
        exact ⟨gA, m, c, hs, rfl, HO.out, hb⟩
  · have HV : Hid (fixA n = []) := by show fixA n = _; unfold fixA; rw [if_neg h]
    have HB := Lib.hid h
    clear h
    go_enter Try.func36, Try.ntmps36
    go_wp2_with fail
    refine (l1In_f n 1 5 _ HB.out).mono ?_
    rintro e w1 ⟨rfl, hb1⟩
    have HI1 := Lib.hid (HI.out.below hb1)
    go_wp2_with fail
    go_ret
    exact ⟨w.heap.size, 0, 0, [], rfl, by rw [HV.out]; exact HI1.out, bel_trans (bel_alloc (Below.refl _ _) _) hb1⟩
end Go.Proofs.Ytglilkneipfheaa

/- Shapes counted by the places around them: both sides. -/
namespace Go.Proofs.Ytglilkneipfheaa
open Go.RowKit
set_option linter.unusedVariables false
attribute [local go_sem ↓] Go.wp_at_zero Go.wp_at_succ

theorem nb_small (k : Nat) (h : k ≤ 4) : ∀ x ∈ fixV k, (nbTo sidesS x x.length).length ≤ 12 := by
  have hf : ∀ x ∈ fixF k, (nbTo sidesS x x.length).length ≤ 12 := by
    rcases (by omega : k = 0 ∨ k = 1 ∨ k = 2 ∨ k = 3 ∨ k = 4) with rfl | rfl | rfl | rfl | rfl <;> decide +kernel
  rw [fixF_eq] at hf
  exact hf
theorem fixA_shape (n : Int) : ∀ x ∈ fixA n, isShape x = true := by
  intro x hx
  unfold fixA at hx
  split at hx
  · exact (fixV_fine _).2 x hx
  · simp at hx
theorem fixA_nb (n : Int) : ∀ x ∈ fixA n, ∃ k : Nat, k ≤ 12 ∧ nbN x = k := by
  intro x hx
  have hs := fixA_shape n x hx
  unfold fixA at hx
  split at hx
  · rename_i h
    exact ⟨_, nb_small _ (by omega) x hx, by unfold nbN; rw [if_pos hs]⟩
  · simp at hx
theorem fixA_len (n : Int) : (fixA n).length ≤ 1048576 := by
  unfold fixA
  split
  · have h1 := fixV_len (n.toNat - 1); have h2 := pow32 (n.toNat - 1) (by omega); omega
  · simp
theorem zeI13 : zeI 13 = List.replicate 13 0 := rfl
theorem tab_own {w : World} {base g k : Nat} {T : List Int} {z : Int} (h : w.ownsRow base 3 1 (.slice (some ⟨g, 0, none⟩) 13 13) 13 (vI T)) : (w.setCell ⟨g, k, none⟩ (.int .i64 z)).ownsRow base 3 1 (.slice (some ⟨g, 0, none⟩) 13 13) 13 (vI (T.set k z)) := by
  have hst := (h.stored k (.int .i64 z)).1
  rw [show (vI T).set k (.int .i64 z) = vI (T.set k z) from by simp [vI, List.map_set]] at hst
  exact hst
set_option maxRecDepth 100000 in
set_option maxHeartbeats 6400000 in
theorem SiteTable_s (n : Int) (w : World) : Calls Try.prog 49 #[.int .i64 n] w (RetS w 3 1 (vI (tabV (fixA n)))) := by
  have hsh := fixA_shape n
  have hnb := fixA_nb n
  have hfl := fixA_len n
  obtain ⟨F, hF⟩ : ∃ F, fixA n = F := ⟨_, rfl⟩
  rw [hF] at hsh hnb hfl
  have hmk : ∀ wq, (Instr.makeSlice 24 (.int .i64 13) (.int .i64 13)).run Try.prog wq = _ := fun wq => mk_I wq 13 (by omega)
  have HSH := Lib.hid hsh
  have HNB := Lib.hid hnb
  have HF := Lib.hid hF
  clear hsh hnb hF
  go_enter Try.func49, Try.ntmps49
  go_wp2_with fail
  refine (FixedShapes_s n _).mono ?_
  rw [HF.out]
  rintro e w1 ⟨g, m, c, hs, rfl, hO, hb1⟩
  have hml : F.length = m := hO.flen
  by_cases h0 : m = 0
  · subst h0
    have hF0 : F = [] := List.length_eq_zero_iff.1 hml
    have HV : Hid (tabV F = []) := by show tabV F = []; unfold tabV; rw [if_pos hF0]
    have HI : Hid ((w1.alloc (.cells #[] 3)).ownsRow w.heap.size 3 1 (.slice (some ⟨w1.heap.size, 0, none⟩) 0 0) 0 (vI [])) := own_new w1 _ 1 0 #[] rfl (by simp [maxLen]) hb1.size
    clear hO hml hF0
    go_wp2_with fail
    go_ret
    exact ⟨_, 0, 0, rfl, by rw [HF.out, HV.out]; exact HI.out, bel_alloc hb1 _⟩
  · have hm0 : ((m : Int) == 0) = false := by rw [beq_eq_false_iff_ne]; omega
    have HV : Hid (tabV F = tabTo F m) := by show tabV F = _; unfold tabV; rw [if_neg (fun e => h0 (by rw [← hml, e]; rfl)), hml]
    have HRF := Lib.hid hO.rd
    have HFL := Lib.hid hml
    have HI : Hid ((w1.alloc (.cells (vI (zeI 13)).toArray 3)).ownsRow w1.heap.size 3 1 (.slice (some ⟨w1.heap.size, 0, none⟩) 13 13) 13 (vI (tabTo F 0))) := own_new w1 _ 1 13 _ rfl (by simp [maxLen]) (Nat.le_refl _)
    have hbz := hb1.size
    have hmb : m ≤ 1048576 := by omega
    clear hO hml hfl
    go_wp2_with fail
    go_loopw [5] (fun e5 wr => ∃ (i : Nat), i ≤ m ∧ e5 = .int .i64 i ∧ wr.ownsRow w1.heap.size 3 1 (.slice (some ⟨w1.heap.size, 0, none⟩) 13 13) 13 (vI (tabTo F i)) ∧ Below w1.heap.size w1 wr) (fun e5 _ => m - (intOf e5).toNat)
    case atStart => exact ⟨0, Nat.zero_le _, rfl, HI.out, bel_alloc (Below.refl _ _) _⟩
    case round =>
      clear HI
      obtain ⟨i, hi, rfl, hO, hb⟩ := hrel
      by_cases hlt : i < m
      · have hi0 : (0 : Int) ≤ (i : Int) := by omega
        have hi1 : (i : Int) < (m : Int) := by omega
        obtain ⟨x, t, gA, off, hsx, hfx, hAe, hg, d1, hrow⟩ := (HRF.out.below hb).at_ hlt
        have htF := List.mem_of_getElem? hfx
        have htsh := HSH.out t htF
        obtain ⟨k, hk12, hnk⟩ := HNB.out t htF
        have hiF : i < F.length := by rw [HFL.out]; exact hlt
        have hst := tabTo_succ F i hiF
        rw [show F[i] = t from by rw [List.getElem?_eq_getElem hiF] at hfx; injection hfx] at hst
        unfold tabStep at hst
        rw [hnk, Int.toNat_natCast] at hst
        have htl := tabTo_len F i (by omega)
        have hle := tabTo_le F i (by omega)
        obtain ⟨T, hT⟩ : ∃ T, tabTo F i = T := ⟨_, rfl⟩
        rw [hT] at hst htl hO hle
        have hkT : k < T.length := by omega
        have hgd : T.getD k 0 = T[k] := by rw [List.getD, List.getElem?_eq_getElem hkT]; rfl
        rw [hgd] at hst
        have hzb := hle _ (List.getElem_mem hkT)
        have hcell : (vI T)[k]? = some (.int .i64 T[k]) := by simp only [vI, List.getElem?_map, List.getElem?_eq_getElem hkT, Option.map_some]
        obtain ⟨z, hz⟩ : ∃ z, T[k] = z := ⟨_, rfl⟩
        rw [hz] at hst hzb hcell
        have hzw : IntKind.i64.wrap (z + 1) = z + 1 := Go.IntWalk.i64_in _ (by omega)
        obtain ⟨C1, m1, k1⟩ := x
        have hl1 : t.length = m1 := hrow.1
        have HL1 := Lib.hid hl1
        have HT := Lib.hid htsh
        have HROW := Lib.hid hrow
        have HST := Lib.hid hst
        have HCE := Lib.hid hcell
        have HO := Lib.hid hO
        have HNK := Lib.hid hnk
        dsimp only at d1
        cases hAe
        (try simp only [Nat.zero_add] at d1)
        clear hsx hfx htF hst htl hle hT hkT hgd hcell hz hrow hl1 hO hnk htsh
        go_wp2_with fail
        refine (NeighbourCells_s C1 m1 k1 t _ HROW.out.2.1 HL1.out HT.out).mono ?_
        rw [HNK.out]
        rintro e w2 ⟨rfl, hb2⟩
        have HO2 := Lib.hid (own_keep HO.out hb2)
        have y1 := HO2.out.cellAt k (by omega)
        rw [HCE.out] at y1
        have f1 := HO2.out.frozenAt k
        have hg0 := (own_lt HO2.out _ rfl).2
        have hk0 : (0 : Int) ≤ (k : Int) := by omega
        have hk1 : (k : Int) < 13 := by omega
        have HO3 := Lib.hid (tab_own (k := k) (z := z + 1) HO2.out)
        clear d1
        go_wp2_with fail
        exact ⟨⟨i + 1, by omega, by go_num, by rw [HST.out]; exact HO3.out, bel_grown (bel_trans hb hb2) (grown_set (World.grownBy.refl _ (some w1.heap.size)) rfl _) (fun q e => by injection e with e; omega)⟩, by simp [intOf]; omega⟩
      · obtain rfl : i = m := by omega
        rw [← HV.out] at hO
        have HO := Lib.hid hO
        have hi1 : ¬ (i : Int) < (i : Int) := by omega
        clear hO
        go_wp2_with fail
        go_ret
        exact ⟨_, 13, 13, rfl, by rw [HF.out]; exact own_base HO.out hbz, bel_trans hb1 hb⟩
set_option maxRecDepth 100000 in
set_option maxHeartbeats 6400000 in
theorem table_i (n : Int) (w : World) : Calls Try.prog 92 #[.int .i64 n, .func (.func 93) #[] #[]] w (RetS w 3 1 (vI (tabV (fixA n)))) := by
  have hsh := fixA_shape n
  have hnb := fixA_nb n
  have hfl := fixA_len n
  obtain ⟨F, hF⟩ : ∃ F, fixA n = F := ⟨_, rfl⟩
  rw [hF] at hsh hnb hfl
  have hmk : ∀ wq, (Instr.makeSlice 24 (.int .i64 13) (.int .i64 13)).run Try.prog wq = _ := fun wq => mk_I wq 13 (by omega)
  have HSH := Lib.hid hsh
  have HNB := Lib.hid hnb
  have HF := Lib.hid hF
  clear hsh hnb hF
  go_enter Try.func92, Try.ntmps92
  go_wp2_with fail
  refine (FixedShapes_i n _).mono ?_
  rw [HF.out]
  rintro e w1 ⟨A0, m, c, hs, rfl, hO, hb1⟩
  have hml : F.length = m := hO.flen
  by_cases h0 : m = 0
  · subst h0
    have hF0 : F = [] := List.length_eq_zero_iff.1 hml
    have HV : Hid (tabV F = []) := by show tabV F = []; unfold tabV; rw [if_pos hF0]
    clear hO hml hF0
    go_wp2_with fail
    go_ret
    exact ⟨none, 0, 0, rfl, by rw [HF.out, HV.out]; exact own_nil _ _ _ _, hb1⟩
  · have hm0 : ((m : Int) == 0) = false := by rw [beq_eq_false_iff_ne]; omega
    have HV : Hid (tabV F = tabTo F m) := by show tabV F = _; unfold tabV; rw [if_neg (fun e => h0 (by rw [← hml, e]; rfl)), hml]
    have HRF := Lib.hid hO.rd
    have HFL := Lib.hid hml
    have HI : Hid ((w1.alloc (.cells (vI (zeI 13)).toArray 3)).ownsRow w1.heap.size 3 1 (.slice (some ⟨w1.heap.size, 0, none⟩) 13 13) 13 (vI (tabTo F 0))) := own_new w1 _ 1 13 _ rfl (by simp [maxLen]) (Nat.le_refl _)
    have hbz := hb1.size
    have hmb : m ≤ 1048576 := by omega
    clear hO hml hfl
    go_wp2_with fail
    go_loopw [18] (fun e5 wr => ∃ (i : Nat), i ≤ m ∧ e5 = .int .i64 i ∧ wr.ownsRow w1.heap.size 3 1 (.slice (some ⟨w1.heap.size, 0, none⟩) 13 13) 13 (vI (tabTo F i)) ∧ Below w1.heap.size w1 wr) (fun e5 _ => m - (intOf e5).toNat)
    case atStart => exact ⟨0, Nat.zero_le _, rfl, HI.out, bel_alloc (Below.refl _ _) _⟩
    case round =>
      clear HI
      obtain ⟨i, hi, rfl, hO, hb⟩ := hrel
      by_cases hlt : i < m
      · have hi0 : (0 : Int) ≤ (i : Int) := by omega
        have hi1 : (i : Int) < (m : Int) := by omega
        obtain ⟨x, t, gA, off, hsx, hfx, hAe, hg, d1, hrow⟩ := (HRF.out.below hb).at_ hlt
        have htF := List.mem_of_getElem? hfx
        have htsh := HSH.out t htF
        obtain ⟨k, hk12, hnk⟩ := HNB.out t htF
        have hiF : i < F.length := by rw [HFL.out]; exact hlt
        have hst := tabTo_succ F i hiF
        rw [show F[i] = t from by rw [List.getElem?_eq_getElem hiF] at hfx; injection hfx] at hst
        unfold tabStep at hst
        rw [hnk, Int.toNat_natCast] at hst
        have htl := tabTo_len F i (by omega)
        have hle := tabTo_le F i (by omega)
        obtain ⟨T, hT⟩ : ∃ T, tabTo F i = T := ⟨_, rfl⟩
        rw [hT] at hst htl hO hle
        have hkT : k < T.length := by omega
        have hgd : T.getD k 0 = T[k] := by rw [List.getD, List.getElem?_eq_getElem hkT]; rfl
        rw [hgd] at hst
        have hzb := hle _ (List.getElem_mem hkT)
        have hcell : (vI T)[k]? = some (.int .i64 T[k]) := by simp only [vI, List.getElem?_map, List.getElem?_eq_getElem hkT, Option.map_some]
        obtain ⟨z, hz⟩ : ∃ z, T[k] = z := ⟨_, rfl⟩
        rw [hz] at hst hzb hcell
        have hzw : IntKind.i64.wrap (z + 1) = z + 1 := Go.IntWalk.i64_in _ (by omega)
        obtain ⟨C1, m1, k1⟩ := x
        have hl1 : t.length = m1 := hrow.1
        have HL1 := Lib.hid hl1
        have HT := Lib.hid htsh
        have HROW := Lib.hid hrow
        have HST := Lib.hid hst
        have HCE := Lib.hid hcell
        have HO := Lib.hid hO
        have HNK := Lib.hid hnk
        dsimp only at d1
        cases hAe
        (try simp only [Nat.zero_add] at d1)
        clear hsx hfx htF hst htl hle hT hkT hgd hcell hz hrow hl1 hO hnk htsh
        go_wp2_with fail
        refine (NeighbourCells_i C1 m1 k1 t _ HROW.out.2.1 HL1.out HT.out).mono ?_
        rw [HNK.out]
        rintro e w2 ⟨rfl, hb2⟩
        clear d1
        go_wp2_with fail
        refine (between_t (k : Int) 0 12 _ (by omega) (by omega)).mono ?_
        rintro e w3 ⟨rfl, hb3⟩
        have HO2 := Lib.hid (own_keep HO.out (bel_trans hb2 hb3))
        have y1 := HO2.out.cellAt k (by omega)
        rw [HCE.out] at y1
        have f1 := HO2.out.frozenAt k
        have hg0 := (own_lt HO2.out _ rfl).2
        have hk0 : (0 : Int) ≤ (k : Int) := by omega
        have hk1 : (k : Int) < 13 := by omega
        have HO3 := Lib.hid (tab_own (k := k) (z := z + 1) HO2.out)
        go_wp2_with fail
        exact ⟨⟨i + 1, by omega, by go_num, by rw [HST.out]; exact HO3.out, bel_grown (bel_trans hb (bel_trans hb2 hb3)) (grown_set (World.grownBy.refl _ (some w1.heap.size)) rfl _) (fun q e => by injection e with e; omega)⟩, by simp [intOf]; omega⟩
      · obtain rfl : i = m := by omega
        rw [← HV.out] at hO
        have HO := Lib.hid hO
        have hi1 : ¬ (i : Int) < (i : Int) := by omega
        clear hO
        go_wp2_with fail
        go_ret
        exact ⟨_, 13, 13, rfl, by rw [HF.out]; exact own_base HO.out hbz, bel_trans hb1 hb⟩
theorem SiteTable_i (n : Int) (w : World) : Calls Try.prog 47 #[.int .i64 n] w (RetS w 3 1 (vI (tabV (fixA n)))) := by
  go_enter Try.func47, Try.ntmps47
  go_wp2_with fail
  refine (table_i n _).mono ?_
  rintro e w1 ⟨A, m, c, rfl, hO, hb⟩
  have HO := Lib.hid hO
  clear hO
  go_wp2_with fail
  go_ret
  exact ⟨A, m, c, rfl, HO.out, hb⟩
end Go.Proofs.Ytglilkneipfheaa

/- What is read from the table of places: both sides. -/
namespace Go.Proofs.Ytglilkneipfheaa
open Go.RowKit
set_option linter.unusedVariables false
attribute [local go_sem ↓] Go.wp_at_zero Go.wp_at_succ

theorem tab_len (n : Int) : (tabV (fixA n)).length = 0 ∨ (tabV (fixA n)).length = 13 := by
  unfold tabV
  split
  · exact .inl rfl
  · exact .inr (tabTo_len _ _ (Nat.le_refl _))
def swV (T : List Int) (k : Int) : Int := if 0 ≤ k ∧ k < T.length then T.getD k.toNat 0 else -1
def mostTo (T : List Int) : Nat → Int
  | 0 => -1
  | i + 1 => if T.getD i 0 > 0 then (i : Int) else mostTo T i
theorem mostTo_le (T : List Int) : ∀ i, -1 ≤ mostTo T i ∧ mostTo T i ≤ i
  | 0 => by simp [mostTo]
  | i + 1 => by
    have := mostTo_le T i
    unfold mostTo
    split <;> omega
def fewN (T : List Int) : Nat := T.findIdx (fun x => decide (x > 0))
def fewV (T : List Int) : Int := if fewN T < T.length then (fewN T : Int) else -1
theorem few_at {T : List Int} {i : Nat} (h : i < T.length) (h1 : T[i] > 0) (h2 : ∀ j (hj : j < T.length), j < i → ¬ T[j] > 0) : fewV T = i := by
  have e : fewN T = i := by
    unfold fewN
    rw [List.findIdx_eq h]
    exact ⟨by simpa using h1, fun j hj => by simpa using h2 j (by omega) hj⟩
  unfold fewV
  rw [e, if_pos h]
theorem few_none {T : List Int} (h2 : ∀ j (hj : j < T.length), ¬ T[j] > 0) : fewV T = -1 := by
  unfold fewV
  rw [if_neg]
  intro h
  have h3 := List.findIdx_getElem (p := fun x : Int => decide (x > 0)) (xs := T) (w := h)
  exact h2 _ h (of_decide_eq_true h3)
theorem getD_at {T : List Int} {i : Nat} (h : i < T.length) : T.getD i 0 = T[i] := by rw [List.getD, List.getElem?_eq_getElem h]; rfl
set_option maxRecDepth 100000 in
set_option maxHeartbeats 3200000 in
theorem ShapesWithSites_s (n k : Int) (w : World) : Calls Try.prog 56 #[.int .i64 n, .int .i64 k] w (Ret w (.int .i64 (swV (tabV (fixA n)) k))) := by
  have hl := tab_len n
  obtain ⟨T, hT⟩ : ∃ T, tabV (fixA n) = T := ⟨_, rfl⟩
  have HT := Lib.hid hT
  rw [hT] at hl ⊢
  clear hT
  go_enter Try.func56, Try.ntmps56
  go_wp2_with fail
  refine (SiteTable_s n _).mono ?_
  rw [HT.out]
  rintro e w1 ⟨A, m, c, rfl, hO, hb1⟩
  have hml : T.length = m := by have := own_len hO; rw [vI_length] at this; omega
  rw [hml] at hl
  have HR := Lib.hid (Rd.of_own hO)
  have HL := Lib.hid hml
  clear hO hml
  rcases hl with rfl | rfl
  · have HV : Hid (swV T k = -1) := by show swV T k = -1; unfold swV; rw [if_neg (by rw [HL.out]; omega)]
    go_wp2_with fail
    go_ret
    exact ⟨by rw [HV.out]; rfl, hb1⟩
  · by_cases hk : 0 ≤ k ∧ k ≤ 12
    · obtain ⟨q, rfl⟩ : ∃ q : Nat, k = (q : Int) := ⟨k.toNat, by omega⟩
      have hqT : q < T.length := by rw [HL.out]; omega
      have HV : Hid (swV T q = T[q]) := by show swV T q = _; unfold swV; rw [if_pos (by rw [HL.out]; omega), Int.toNat_natCast, getD_at hqT]
      have HK := Lib.hid hk
      have hk0 : (0 : Int) ≤ (q : Int) := by omega
      have hk1 : (q : Int) < 13 := by omega
      clear hk
      go_wp2_with fail
      refine (l1In_t (q : Int) 0 12 _ HK.out.1 HK.out.2).mono ?_
      rintro e w2 ⟨rfl, hb2⟩
      obtain ⟨g, off, hA, hg, d1⟩ := RdI.at_ (HR.out.below hb2) hqT
      subst hA
      obtain ⟨z, hz⟩ : ∃ z, T[q] = z := ⟨_, rfl⟩
      rw [hz] at d1 HV
      clear hz
      go_wp2_with fail
      go_ret
      exact ⟨by rw [HV.out]; rfl, bel_trans hb1 hb2⟩
    · have HV : Hid (swV T k = -1) := by show swV T k = -1; unfold swV; rw [if_neg (by rw [HL.out]; omega)]
      have HK := Lib.hid hk
      clear hk
      go_wp2_with fail
      refine (l1In_f k 0 12 _ HK.out).mono ?_
      rintro e w2 ⟨rfl, hb2⟩
      go_wp2_with fail
      go_ret
      exact ⟨by rw [HV.out]; rfl, bel_trans hb1 hb2⟩
set_option maxRecDepth 100000 in
set_option maxHeartbeats 3200000 in
theorem ShapesWithSites_i (n k : Int) (w : World) : Calls Try.prog 55 #[.int .i64 n, .int .i64 k] w (Ret w (.int .i64 (swV (tabV (fixA n)) k))) := by
  have hl := tab_len n
  obtain ⟨T, hT⟩ : ∃ T, tabV (fixA n) = T := ⟨_, rfl⟩
  have HT := Lib.hid hT
  rw [hT] at hl ⊢
  clear hT
  go_enter Try.func55, Try.ntmps55
  go_wp2_with fail
  refine (SiteTable_i n _).mono ?_
  rw [HT.out]
  rintro e w1 ⟨A, m, c, rfl, hO, hb1⟩
  have hml : T.length = m := by have := own_len hO; rw [vI_length] at this; omega
  rw [hml] at hl
  have HR := Lib.hid (Rd.of_own hO)
  have HL := Lib.hid hml
  have HM := Lib.hid hl
  have hm1 : IntKind.i64.wrap ((m : Int) - 1) = (m : Int) - 1 := Go.IntWalk.i64_in _ (by omega)
  clear hO hml hl
  by_cases hk : 0 ≤ k ∧ k ≤ (m : Int) - 1
  · obtain ⟨q, rfl⟩ : ∃ q : Nat, k = (q : Int) := ⟨k.toNat, by omega⟩
    have hqT : q < T.length := by rw [HL.out]; omega
    have HV : Hid (swV T q = T[q]) := by show swV T q = _; unfold swV; rw [if_pos (by rw [HL.out]; omega), Int.toNat_natCast, getD_at hqT]
    have HK := Lib.hid hk
    have hk0 : (0 : Int) ≤ (q : Int) := by omega
    have hk1 : (q : Int) < (m : Int) := by omega
    clear hk
    go_wp2_with fail
    refine (between_t (q : Int) 0 ((m : Int) - 1) _ HK.out.1 HK.out.2).mono ?_
    rintro e w2 ⟨rfl, hb2⟩
    obtain ⟨g, off, hA, hg, d1⟩ := RdI.at_ (HR.out.below hb2) hqT
    subst hA
    obtain ⟨z, hz⟩ : ∃ z, T[q] = z := ⟨_, rfl⟩
    rw [hz] at d1 HV
    clear hz
    go_wp2_with fail
    go_ret
    exact ⟨by rw [HV.out]; rfl, bel_trans hb1 hb2⟩
  · have HV : Hid (swV T k = -1) := by show swV T k = -1; unfold swV; rw [if_neg (by rw [HL.out]; omega)]
    have HK := Lib.hid hk
    clear hk
    go_wp2_with fail
    refine (between_f k 0 ((m : Int) - 1) _ HK.out).mono ?_
    rintro e w2 ⟨rfl, hb2⟩
    go_wp2_with fail
    go_ret
    exact ⟨by rw [HV.out]; rfl, bel_trans hb1 hb2⟩
set_option maxRecDepth 100000 in
set_option maxHeartbeats 3200000 in
theorem MostNeighbours_s (n : Int) (w : World) : Calls Try.prog 57 #[.int .i64 n] w (Ret w (.int .i64 (mostTo (tabV (fixA n)) (tabV (fixA n)).length))) := by
  have hl := tab_len n
  obtain ⟨T, hT⟩ : ∃ T, tabV (fixA n) = T := ⟨_, rfl⟩
  have HT := Lib.hid hT
  rw [hT] at hl ⊢
  clear hT
  go_enter Try.func57, Try.ntmps57
  go_wp2_with fail
  refine (SiteTable_s n _).mono ?_
  rw [HT.out]
  rintro e w1 ⟨A, m, c, rfl, hO, hb1⟩
  have hml : T.length = m := by have := own_len hO; rw [vI_length] at this; omega
  rw [hml] at hl ⊢
  have HR := Lib.hid (Rd.of_own hO)
  have HL := Lib.hid hml
  have hm13 : m ≤ 13 := by omega
  clear hO hml hl
  go_wp2_with fail
  go_loopw [5, 4] (fun e5 e4 wr => ∃ (i : Nat), i ≤ m ∧ e5 = .int .i64 i ∧ e4 = .int .i64 (mostTo T i) ∧ Below w1.heap.size w1 wr) (fun e5 _ _ => m - (intOf e5).toNat)
  case atStart => exact ⟨0, Nat.zero_le _, rfl, rfl, Below.refl _ _⟩
  case round =>
    obtain ⟨i, hi, rfl, rfl, hb⟩ := hrel
    by_cases hlt : i < m
    · have hi0 : (0 : Int) ≤ (i : Int) := by omega
      have hi1 : (i : Int) < (m : Int) := by omega
      have hiT : i < T.length := by rw [HL.out]; exact hlt
      obtain ⟨g, off, hA, hg, d1⟩ := RdI.at_ (HR.out.below hb) hiT
      subst hA
      have hst : mostTo T (i + 1) = if T[i] > 0 then (i : Int) else mostTo T i := by rw [← getD_at hiT]; rfl
      obtain ⟨z, hz⟩ : ∃ z, T[i] = z := ⟨_, rfl⟩
      rw [hz] at d1 hst
      obtain ⟨b, hbv⟩ : ∃ b, mostTo T i = b := ⟨_, rfl⟩
      rw [hbv] at hst ⊢
      clear hz hbv
      by_cases hp : z > 0
      · have HS : Hid (mostTo T (i + 1) = i) := by show _ = (i : Int); rw [hst, if_pos hp]
        clear hst
        go_wp2_with fail
        exact ⟨⟨i + 1, by omega, by go_num, by rw [HS.out], hb⟩, by simp [intOf]; omega⟩
      · have HS : Hid (mostTo T (i + 1) = b) := by show _ = b; rw [hst, if_neg hp]
        clear hst
        go_wp2_with fail
        exact ⟨⟨i + 1, by omega, by go_num, by rw [HS.out], hb⟩, by simp [intOf]; omega⟩
    · obtain rfl : i = m := by omega
      have hi1 : ¬ (i : Int) < (i : Int) := by omega
      go_wp2_with fail
      go_ret
      exact ⟨by rw [HL.out]; rfl, bel_trans hb1 hb⟩
set_option maxRecDepth 100000 in
set_option maxHeartbeats 3200000 in
theorem MostNeighbours_i (n : Int) (w : World) : Calls Try.prog 53 #[.int .i64 n] w (Ret w (.int .i64 (mostTo (tabV (fixA n)) (tabV (fixA n)).length))) := by
  have hl := tab_len n
  obtain ⟨T, hT⟩ : ∃ T, tabV (fixA n) = T := ⟨_, rfl⟩
  have HT := Lib.hid hT
  rw [hT] at hl ⊢
  clear hT
  go_enter Try.func53, Try.ntmps53
  go_wp2_with fail
  refine (SiteTable_i n _).mono ?_
  rw [HT.out]
  rintro e w1 ⟨A, m, c, rfl, hO, hb1⟩
  have hml : T.length = m := by have := own_len hO; rw [vI_length] at this; omega
  rw [hml] at hl ⊢
  have HR := Lib.hid (Rd.of_own hO)
  have HL := Lib.hid hml
  have hm13 : m ≤ 13 := by omega
  clear hO hml hl
  go_wp2_with fail
  go_loopw [9, 3] (fun e9 e3 wr => ∃ (i : Nat), i ≤ m ∧ e9 = .int .i64 i ∧ e3 = .int .i64 (mostTo T i) ∧ Below w1.heap.size w1 wr) (fun e9 _ _ => m - (intOf e9).toNat)
  case atStart => exact ⟨0, Nat.zero_le _, rfl, rfl, Below.refl _ _⟩
  case round =>
    obtain ⟨i, hi, rfl, rfl, hb⟩ := hrel
    by_cases hlt : i < m
    · have hi0 : (0 : Int) ≤ (i : Int) := by omega
      have hi1 : (i : Int) < (m : Int) := by omega
      have hiT : i < T.length := by rw [HL.out]; exact hlt
      obtain ⟨g, off, hA, hg, d1⟩ := RdI.at_ (HR.out.below hb) hiT
      subst hA
      have hst : mostTo T (i + 1) = if T[i] > 0 then (i : Int) else mostTo T i := by rw [← getD_at hiT]; rfl
      obtain ⟨z, hz⟩ : ∃ z, T[i] = z := ⟨_, rfl⟩
      rw [hz] at d1 hst
      obtain ⟨b, hbv⟩ : ∃ b, mostTo T i = b := ⟨_, rfl⟩
      rw [hbv] at hst ⊢
      clear hz hbv
      by_cases hp : z > 0
      · have HS : Hid (mostTo T (i + 1) = i) := by show _ = (i : Int); rw [hst, if_pos hp]
        clear hst
        go_wp2_with fail
        exact ⟨⟨i + 1, by omega, by go_num, by rw [HS.out], hb⟩, by simp [intOf]; omega⟩
      · have HS : Hid (mostTo T (i + 1) = b) := by show _ = b; rw [hst, if_neg hp]
        clear hst
        go_wp2_with fail
        exact ⟨⟨i + 1, by omega, by go_num, by rw [HS.out], hb⟩, by simp [intOf]; omega⟩
    · obtain rfl : i = m := by omega
      have hi1 : ¬ (i : Int) < (i : Int) := by omega
      go_wp2_with fail
      go_ret
      exact ⟨by rw [HL.out]; rfl, bel_trans hb1 hb⟩
set_option maxRecDepth 100000 in
set_option maxHeartbeats 3200000 in
theorem FewestNeighbours_s (n : Int) (w : World) : Calls Try.prog 59 #[.int .i64 n] w (Ret w (.int .i64 (fewV (tabV (fixA n))))) := by
  have hl := tab_len n
  obtain ⟨T, hT⟩ : ∃ T, tabV (fixA n) = T := ⟨_, rfl⟩
  have HT := Lib.hid hT
  rw [hT] at hl ⊢
  clear hT
  go_enter Try.func59, Try.ntmps59
  go_wp2_with fail
  refine (SiteTable_s n _).mono ?_
  rw [HT.out]
  rintro e w1 ⟨A, m, c, rfl, hO, hb1⟩
  have hml : T.length = m := by have := own_len hO; rw [vI_length] at this; omega
  rw [hml] at hl
  have HR := Lib.hid (Rd.of_own hO)
  have HL := Lib.hid hml
  have hm13 : m ≤ 13 := by omega
  clear hO hml hl
  go_wp2_with fail
  go_loopw [4] (fun e4 wr => ∃ (i : Nat), i ≤ m ∧ e4 = .int .i64 i ∧ (∀ j (hj : j < T.length), j < i → ¬ T[j] > 0) ∧ Below w1.heap.size w1 wr) (fun e4 _ => m - (intOf e4).toNat)
  case atStart => exact ⟨0, Nat.zero_le _, rfl, fun j hj h => by omega, Below.refl _ _⟩
  case round =>
    obtain ⟨i, hi, rfl, hno, hb⟩ := hrel
    by_cases hlt : i < m
    · have hi0 : (0 : Int) ≤ (i : Int) := by omega
      have hi1 : (i : Int) < (m : Int) := by omega
      have hiT : i < T.length := by rw [HL.out]; exact hlt
      obtain ⟨g, off, hA, hg, d1⟩ := RdI.at_ (HR.out.below hb) hiT
      subst hA
      by_cases hp : T[i] > 0
      · have HS : Hid (fewV T = i) := few_at hiT hp hno
        obtain ⟨z, hz⟩ : ∃ z, T[i] = z := ⟨_, rfl⟩
        rw [hz] at d1 hp
        clear hz hno
        go_wp2_with fail
        go_ret
        exact ⟨by rw [HS.out]; rfl, bel_trans hb1 hb⟩
      · have HS : Hid (∀ j (hj : j < T.length), j < i + 1 → ¬ T[j] > 0) := fun j hj h => by
          rcases (by omega : j < i ∨ j = i) with h1 | h1
          · exact hno j hj h1
          · subst h1; exact hp
        obtain ⟨z, hz⟩ : ∃ z, T[i] = z := ⟨_, rfl⟩
        rw [hz] at d1 hp
        clear hz hno
        go_wp2_with fail
        exact ⟨⟨i + 1, by omega, by go_num, HS.out, hb⟩, by simp [intOf]; omega⟩
    · obtain rfl : i = m := by omega
      have HS : Hid (fewV T = -1) := few_none (fun j hj => hno j hj (by rw [← HL.out]; exact hj))
      have hi1 : ¬ (i : Int) < (i : Int) := by omega
      clear hno
      go_wp2_with fail
      go_ret
      exact ⟨by rw [HS.out]; rfl, bel_trans hb1 hb⟩
set_option maxRecDepth 100000 in
set_option maxHeartbeats 3200000 in
theorem FewestNeighbours_i (n : Int) (w : World) : Calls Try.prog 58 #[.int .i64 n] w (Ret w (.int .i64 (fewV (tabV (fixA n))))) := by
  have hl := tab_len n
  obtain ⟨T, hT⟩ : ∃ T, tabV (fixA n) = T := ⟨_, rfl⟩
  have HT := Lib.hid hT
  rw [hT] at hl ⊢
  clear hT
  go_enter Try.func58, Try.ntmps58
  go_wp2_with fail
  refine (SiteTable_i n _).mono ?_
  rw [HT.out]
  rintro e w1 ⟨A, m, c, rfl, hO, hb1⟩
  have hml : T.length = m := by have := own_len hO; rw [vI_length] at this; omega
  rw [hml] at hl
  have HR := Lib.hid (Rd.of_own hO)
  have HL := Lib.hid hml
  have hm13 : m ≤ 13 := by omega
  clear hO hml hl
  go_wp2_with fail
  go_loopw [8] (fun e8 wr => ∃ (i : Nat), i ≤ m ∧ e8 = .int .i64 i ∧ (∀ j (hj : j < T.length), j < i → ¬ T[j] > 0) ∧ Below w1.heap.size w1 wr) (fun e8 _ => m - (intOf e8).toNat)
  case atStart => exact ⟨0, Nat.zero_le _, rfl, fun j hj h => by omega, Below.refl _ _⟩
  case round =>
    obtain ⟨i, hi, rfl, hno, hb⟩ := hrel
    by_cases hlt : i < m
    · have hi0 : (0 : Int) ≤ (i : Int) := by omega
      have hi1 : (i : Int) < (m : Int) := by omega
      have hiT : i < T.length := by rw [HL.out]; exact hlt
      obtain ⟨g, off, hA, hg, d1⟩ := RdI.at_ (HR.out.below hb) hiT
      subst hA
      by_cases hp : T[i] > 0
      · have HS : Hid (fewV T = i) := few_at hiT hp hno
        obtain ⟨z, hz⟩ : ∃ z, T[i] = z := ⟨_, rfl⟩
        rw [hz] at d1 hp
        clear hz hno
        go_wp2_with fail
        go_ret
        exact ⟨by rw [HS.out]; rfl, bel_trans hb1 hb⟩
      · have HS : Hid (∀ j (hj : j < T.length), j < i + 1 → ¬ T[j] > 0) := fun j hj h => by
          rcases (by omega : j < i ∨ j = i) with h1 | h1
          · exact hno j hj h1
          · subst h1; exact hp
        obtain ⟨z, hz⟩ : ∃ z, T[i] = z := ⟨_, rfl⟩
        rw [hz] at d1 hp
        clear hz hno
        go_wp2_with fail
        exact ⟨⟨i + 1, by omega, by go_num, HS.out, hb⟩, by simp [intOf]; omega⟩
    · obtain rfl : i = m := by omega
      have HS : Hid (fewV T = -1) := few_none (fun j hj => hno j hj (by rw [← HL.out]; exact hj))
      have hi1 : ¬ (i : Int) < (i : Int) := by omega
      clear hno
      go_wp2_with fail
      go_ret
      exact ⟨by rw [HS.out]; rfl, bel_trans hb1 hb⟩
end Go.Proofs.Ytglilkneipfheaa

/- Tables of shapes by a number: plain functions. No program is in sight. -/
namespace Go.Proofs.Ytglilkneipfheaa
open Go.RowKit
set_option linter.unusedVariables false
/-- One shape counted in a table. -/
def tabStepG (g : List C → Int) (o : List Int) (s : List C) : List Int := o.set (g s).toNat (o.getD (g s).toNat 0 + 1)
def tabToG (g : List C → Int) (F : List (List C)) (i : Nat) : List Int := (F.take i).foldl (tabStepG g) (List.replicate 13 0)
def tabVG (g : List C → Int) (F : List (List C)) : List Int := if F = [] then [] else tabToG g F F.length
theorem tabToG_succ (g : List C → Int) (F : List (List C)) (i : Nat) (h : i < F.length) : tabToG g F (i + 1) = tabStepG g (tabToG g F i) F[i] := by
  unfold tabToG
  rw [List.take_succ_eq_append_getElem h, List.foldl_append]
  rfl
theorem tabToG_len (g : List C → Int) (F : List (List C)) : ∀ i, i ≤ F.length → (tabToG g F i).length = 13
  | 0, _ => by simp [tabToG]
  | i + 1, h => by rw [tabToG_succ g F i h]; unfold tabStepG; rw [List.length_set]; exact tabToG_len g F i (by omega)
theorem tabToG_le (g : List C → Int) (F : List (List C)) : ∀ i, i ≤ F.length → ∀ x ∈ tabToG g F i, 0 ≤ x ∧ x ≤ i
  | 0, _ => by simp [tabToG]
  | i + 1, h => by
    intro x hx
    rw [tabToG_succ g F i h] at hx
    have ih := tabToG_le g F i (by omega)
    unfold tabStepG at hx
    rcases List.mem_or_eq_of_mem_set hx with h1 | h1
    · have := ih x h1; omega
    · have h2 : 0 ≤ (tabToG g F i).getD (g F[i]).toNat 0 ∧ (tabToG g F i).getD (g F[i]).toNat 0 ≤ i := by
        by_cases hl : (g F[i]).toNat < (tabToG g F i).length
        · rw [List.getD, List.getElem?_eq_getElem hl]; exact ih _ (List.getElem_mem hl)
        · rw [List.getD, List.getElem?_eq_none (by omega)]; simp
      omega
end Go.Proofs.Ytglilkneipfheaa

/- Plain functions on shapes: inner sides, trees, snakes, ends, the order of growth. No program is in sight. -/
namespace Go.Proofs.Ytglilkneipfheaa
open Go.RowKit
set_option linter.unusedVariables false

theorem countP_take {α : Type} (p : α → Bool) (xs : List α) (k : Nat) (hk : k < xs.length) : (xs.take (k + 1)).countP p = (xs.take k).countP p + (if p xs[k] then 1 else 0) := by
  rw [List.take_succ_eq_append_getElem hk, List.countP_append, List.countP_singleton]
theorem countP_congr' {α : Type} {p q : α → Bool} {l : List α} (h : ∀ x ∈ l, p x = q x) : l.countP p = l.countP q := by
  induction l with
  | nil => rfl
  | cons a t ih => simp only [List.countP_cons, h a (by simp), ih (fun x hx => h x (by simp [hx]))]
def degI (s : List C) (c : C) : Nat := s.countP fun d => nearI c d
def degS (s : List C) (c : C) : Nat := s.countP fun d => nearS d c
def deg (s : List C) (c : C) : Nat := s.countP fun d => near c d
theorem degI_eq {l : List C} {c : C} (hl : ∀ d ∈ l, small d) (hc : small c) : degI l c = deg l c := countP_congr' fun d hd => nearI_eq hc (hl d hd)
theorem degS_eq {l : List C} {c : C} (hl : ∀ d ∈ l, small d) (hc : small c) : degS l c = deg l c := countP_congr' fun d hd => by rw [nearS_eq (hl d hd) hc, near_symm]
def inner (l : List C) : Nat → Nat
  | 0 => 0
  | k + 1 => inner l k + (l.take k).countP fun d => near (l.getD k (0, 0)) d
theorem countP_le' {α : Type} (p : α → Bool) (l : List α) : l.countP p ≤ l.length := List.countP_le_length
theorem inner_le (l : List C) (k : Nat) (hk : k ≤ 8) : inner l k ≤ k * 8 := by
  induction k with
  | zero => simp [inner]
  | succ k ih =>
    have h1 := ih (by omega)
    have h2 := countP_le' (fun d => near (l.getD k (0, 0)) d) (l.take k)
    rw [List.length_take] at h2
    simp only [inner]
    omega
noncomputable def isConn (l : List C) : Bool := isShape l && conn l
noncomputable def isTree (l : List C) : Bool := isConn l && (inner l l.length == l.length - 1)
noncomputable def isSnake (l : List C) : Bool := isTree l && l.all fun c => decide (deg l c ≤ 2)
theorem conn_shape {l : List C} (h : isConn l = true) : isShape l = true := by simp only [isConn, Bool.and_eq_true] at h; exact h.1
theorem tree_conn {l : List C} (h : isTree l = true) : isConn l = true := by simp only [isTree, Bool.and_eq_true] at h; exact h.1
theorem snake_tree {l : List C} (h : isSnake l = true) : isTree l = true := by simp only [isSnake, Bool.and_eq_true] at h; exact h.1
theorem snake_no {s : List C} {c : C} (hc : c ∈ s) (h : 2 < degI s c) : isSnake s = false := by
  rw [Bool.eq_false_iff]
  intro hs
  have hsm := shape_small (conn_shape (tree_conn (snake_tree hs)))
  rw [degI_eq hsm (hsm c hc)] at h
  simp only [isSnake, Bool.and_eq_true, List.all_eq_true, decide_eq_true_eq] at hs
  have := hs.2 c hc
  omega
theorem snake_end {s : List C} (h : ∀ c ∈ s, ¬ (s.length ≤ 8 ∧ 2 < degI s c)) : isTree s = isSnake s := by
  unfold isSnake
  cases ht : isTree s with
  | false => rfl
  | true =>
    have hsh := conn_shape (tree_conn ht)
    have hsm := shape_small hsh
    symm
    rw [Bool.true_and, List.all_eq_true]
    intro c hc
    have h1 := h c hc
    rw [degI_eq hsm (hsm c hc)] at h1
    have := shape_len hsh
    rw [decide_eq_true_eq]
    omega
def ends (l : List C) : List C := if isShape l then l.filter fun c => deg l c == 1 else []
theorem filter_take {α : Type} (p : α → Bool) (xs : List α) (k : Nat) (hk : k < xs.length) : (xs.take (k + 1)).filter p = (xs.take k).filter p ++ (if p xs[k] then [xs[k]] else []) := by
  rw [List.take_succ_eq_append_getElem hk, List.filter_append, List.filter_cons, List.filter_nil]

/-- A cell that is new and has a neighbour among those that came. -/
def nextTo (out : List C) (c : C) : Bool := !hasC out c.1 c.2 && touch out c
theorem hasC_iff (s : List C) (c : C) : hasC s c.1 c.2 = true ↔ c ∈ s := by
  unfold hasC
  rw [List.any_eq_true]
  constructor
  · rintro ⟨d, hd, h⟩
    simp only [Bool.and_eq_true, beq_iff_eq] at h
    rwa [show c = d from Prod.ext h.1.symm h.2.symm]
  · intro h
    exact ⟨c, h, by simp⟩
def grownBy (s : List C) : Nat → List C
  | 0 => [s0 s]
  | k + 1 => grownBy s k ++ (s.find? (nextTo (grownBy s k))).toList
/-- In a connected shape there is always a next cell. -/
theorem next_some {s out : List C} (hs : conn s = true) (hn : s.Nodup) (h0 : s0 s ∈ out) (hlen : out.length < s.length) : ∃ c, s.find? (nextTo out) = some c := by
  rcases hf : s.find? (nextTo out) with _ | c
  · exfalso
    rw [List.find?_eq_none] at hf
    rw [conn_iff] at hs
    have all : ∀ c, Rch s (s0 s) c → c ∈ out := by
      intro c hc
      induction hc with
      | base => exact h0
      | @step b c _ hc hn ih =>
        have := hf c hc
        simp only [nextTo, Bool.and_eq_true, Bool.not_eq_true', not_and] at this
        rcases Decidable.em (c ∈ out) with h | h
        · exact h
        · exfalso
          refine this ?_ ?_
          · rw [Bool.eq_false_iff]; intro h'; exact h ((hasC_iff _ _).1 h')
          · unfold touch; rw [List.any_eq_true]; exact ⟨b, ih, by rw [near_symm]; exact hn⟩
    have := nodup_len s out hn (fun c hc => all c (hs c hc))
    omega
  · exact ⟨c, rfl⟩
theorem grownBy_s0 (s : List C) (k : Nat) : s0 s ∈ grownBy s k := by
  induction k with
  | zero => simp [grownBy]
  | succ k ih => simp [grownBy, ih]
theorem grownBy_sub {s : List C} (h : s ≠ []) (k : Nat) : ∀ c ∈ grownBy s k, c ∈ s := by
  induction k with
  | zero =>
    intro c hc
    simp only [grownBy, List.mem_singleton] at hc
    subst hc
    cases s with
    | nil => exact absurd rfl h
    | cons a t => simp [s0]
  | succ k ih =>
    intro c hc
    simp only [grownBy, List.mem_append, Option.mem_toList] at hc
    rcases hc with hc | hc
    · exact ih c hc
    · exact List.mem_of_find?_eq_some hc
theorem grownBy_len {s : List C} (hs : conn s = true) (hn : s.Nodup) (k : Nat) (hk : k < s.length) : (grownBy s k).length = k + 1 := by
  induction k with
  | zero => rfl
  | succ k ih =>
    have h1 := ih (by omega)
    obtain ⟨c, hc⟩ := next_some hs hn (grownBy_s0 s k) (by omega)
    simp [grownBy, hc, h1]
end Go.Proofs.Ytglilkneipfheaa

/- Inner sides: walks. -/
namespace Go.Proofs.Ytglilkneipfheaa
open Go.RowKit
set_option linter.unusedVariables false
attribute [local go_sem ↓] Go.wp_at_zero Go.wp_at_succ

def innerV (xs : List C) : Nat := if isShape xs then inner xs xs.length else 0
set_option maxHeartbeats 800000 in
theorem InnerSides_i (A : Option Addr) (n c : Nat) (xs : List C) (w : World) (hr : Rd w A (vC xs)) (hl : xs.length = n) (hn : n ≤ 1099511627776) :
    Calls Try.prog 104 #[.slice A n c] w (Ret w (.int .i64 (innerV xs : Nat))) := by
  have HL := Lib.hid hl
  cases hs : isShape xs with
  | false =>
    have HV : Hid (innerV xs = 0) := by show innerV xs = 0; unfold innerV; rw [hs]; rfl
    have HS := Lib.hid hs
    clear hs hl
    go_enter Try.func104, Try.ntmps104
    go_wp2_with (go_at_call 75; refine (IsShape_i _ _ _ xs _ hr HL.out (by omega)).mono ?_; rw [HS.out]; rintro e w1 ⟨rfl, hb1⟩)
    go_ret
    exact ⟨by rw [HV.out]; rfl, (by (repeat (first | with_reducible exact Below.refl _ _ | with_reducible assumption | with_reducible apply bel_alloc | with_reducible apply bel_drew | with_reducible apply bel_drewN | ((with_reducible refine bel_set ?_ ?_); rotate_left; (simp <;> omega)) | (with_reducible refine bel_trans ?_ (by with_reducible assumption)))))⟩
  | true =>
    have HV : Hid (innerV xs = inner xs n) := by show innerV xs = inner xs n; unfold innerV; rw [hs, hl]; rfl
    have hlen := shape_len hs
    have hsm := shape_small hs
    have hn8 : n ≤ 8 := by omega
    have hn1 : 1 ≤ n := by omega
    have HS := Lib.hid hs
    have HSM := Lib.hid hsm
    clear hs hlen hsm hl hn
    go_enter Try.func104, Try.ntmps104
    go_wp2_with (go_at_call 75; refine (IsShape_i _ _ _ xs _ hr HL.out (by omega)).mono ?_; rw [HS.out]; rintro e w1 ⟨rfl, hb1⟩)
    go_loopw [11, 3] (fun i s wr => ∃ k q : Nat, k ≤ n ∧ i = .int .i64 k ∧ s = .int .i64 q ∧ q = inner xs k ∧ Below w.heap.size w wr) (fun i _ _ => n - (intOf i).toNat)
    case atStart => exact ⟨0, 0, Nat.zero_le _, rfl, rfl, rfl, (by (repeat (first | with_reducible exact Below.refl _ _ | with_reducible assumption | with_reducible apply bel_alloc | with_reducible apply bel_drew | with_reducible apply bel_drewN | ((with_reducible refine bel_set ?_ ?_); rotate_left; (simp <;> omega)) | (with_reducible refine bel_trans ?_ (by with_reducible assumption)))))⟩
    case round =>
      obtain ⟨k, q, hk, rfl, rfl, hq, hb⟩ := hrel
      by_cases hlt : k < n
      · have hkx : k < xs.length := by rw [HL.out]; omega
        have hin : inner xs (k + 1) = inner xs k + (xs.take k).countP fun d => near xs[k] d := by
          simp only [inner]
          rw [List.getD_eq_getElem?_getD, List.getElem?_eq_getElem hkx]; rfl
        have hi0 : (0 : Int) ≤ (k : Int) := by omega
        have hi1 : (k : Int) < (n : Int) := by omega
        have hile := inner_le xs k (by omega)
        have HQ := Lib.hid hq
        have HIN := Lib.hid hin
        have hq64 : q ≤ 64 := by omega
        clear hq hin hile
        go_wp2
        go_loopw [15, 3] (fun i s wr => ∃ j p : Nat, j ≤ k ∧ i = .int .i64 j ∧ s = .int .i64 p ∧ p = q + ((xs.take j).countP fun d => near xs[k] d) ∧ Below w.heap.size w wr) (fun i _ _ => k - (intOf i).toNat)
        case atStart => exact ⟨0, q, Nat.zero_le _, rfl, rfl, rfl, (by (repeat (first | with_reducible exact Below.refl _ _ | with_reducible assumption | with_reducible apply bel_alloc | with_reducible apply bel_drew | with_reducible apply bel_drewN | ((with_reducible refine bel_set ?_ ?_); rotate_left; (simp <;> omega)) | (with_reducible refine bel_trans ?_ (by with_reducible assumption)))))⟩
        case round =>
          clear hb
          obtain ⟨j, p, hj, rfl, rfl, hp, hb⟩ := hrel
          by_cases hlj : j < k
          · have hjx : j < xs.length := by omega
            have hrw := hr.below hb
            obtain ⟨g, off, rfl, hgw, c1, c2⟩ := RdC.at_ hrw hkx
            have d12 : wr.cell? ⟨g, off + j * 2, none⟩ = some (.int .i64 xs[j].1) ∧ wr.cell? ⟨g, off + j * 2 + 1, none⟩ = some (.int .i64 xs[j].2) := by
              obtain ⟨g', off', e, _, h1, h2⟩ := RdC.at_ hrw hjx
              simp only [Option.some.injEq, Addr.mk.injEq, and_true] at e
              obtain ⟨rfl, rfl⟩ := e
              exact ⟨h1, h2⟩
            obtain ⟨d1, d2⟩ := d12
            have ht := countP_take (fun d => near xs[k] d) xs j hjx
            have hne := nearI_eq (HSM.out _ (List.getElem_mem hkx)) (HSM.out _ (List.getElem_mem hjx))
            have hpb : ((xs.take j).countP fun d => near xs[k] d) ≤ j := Nat.le_trans (countP_le' _ _) (by rw [List.length_take]; omega)
            have hp2 : p ≤ 80 := by omega
            obtain ⟨⟨x, y⟩, hx⟩ : ∃ p, xs[k] = p := ⟨_, rfl⟩
            obtain ⟨⟨x', y'⟩, hx'⟩ : ∃ p, xs[j] = p := ⟨_, rfl⟩
            rw [hx] at c1 c2
            rw [hx'] at d1 d2
            rw [hx'] at ht
            rw [hx, hx'] at hne
            have hi2 : (0 : Int) ≤ (j : Int) := by omega
            have hi3 : (j : Int) < (n : Int) := by omega
            cases hv : near (x, y) (x', y') with
            | true =>
              have HP : Hid (p + 1 = q + ((xs.take (j + 1)).countP fun d => near xs[k] d)) := by
                unfold Hid
                rw [ht, hx, hv]
                rw [hx] at hp
                simp only [if_true]
                omega
              rw [hv] at hne
              have HW := Lib.hid hne
              clear ht hx hx' hp hpb hne hv
              go_wp2_with fail
              go_region_held3 (fun w' => w'.cell? ⟨g, off + k * 2, none⟩ = some (.int .i64 x) ∧ w'.cell? ⟨g, off + k * 2 + 1, none⟩ = some (.int .i64 y) ∧ w'.cell? ⟨g, off + j * 2, none⟩ = some (.int .i64 x') ∧ w'.cell? ⟨g, off + j * 2 + 1, none⟩ = some (.int .i64 y'))
                ((go_split_ands; (try dsimp only); (repeat' (with_reducible apply And.intro)) <;> (repeat (first | with_reducible assumption | with_reducible apply keep_alloc | with_reducible apply keep_drew | with_reducible refine keep_below hb1 ?_ | ((with_reducible refine keep_set ?_ ?_); rotate_left; (simp <;> omega)))))) (first | (go_at_call 114; refine (beside_i _ _ _ _ _).mono ?_; rw [HW.out]; rintro e w1 ⟨rfl, hb1⟩))
              go_wp2
              exact ⟨⟨j + 1, p + 1, by omega, by go_num, by go_num, HP.out, (by (repeat (first | with_reducible exact Below.refl _ _ | with_reducible assumption | with_reducible apply bel_alloc | with_reducible apply bel_drew | with_reducible apply bel_drewN | ((with_reducible refine bel_set ?_ ?_); rotate_left; (simp <;> omega)) | (with_reducible refine bel_trans ?_ (by with_reducible assumption)))))⟩, by simp [intOf]; omega⟩
            | false =>
              have HP : Hid (p = q + ((xs.take (j + 1)).countP fun d => near xs[k] d)) := by
                unfold Hid
                rw [ht, hx, hv]
                rw [hx] at hp
                simp only [Bool.false_eq_true, if_false]
                omega
              rw [hv] at hne
              have HW := Lib.hid hne
              clear ht hx hx' hp hpb hne hv
              go_wp2_with fail
              go_region_held3 (fun w' => w'.cell? ⟨g, off + k * 2, none⟩ = some (.int .i64 x) ∧ w'.cell? ⟨g, off + k * 2 + 1, none⟩ = some (.int .i64 y) ∧ w'.cell? ⟨g, off + j * 2, none⟩ = some (.int .i64 x') ∧ w'.cell? ⟨g, off + j * 2 + 1, none⟩ = some (.int .i64 y'))
                ((go_split_ands; (try dsimp only); (repeat' (with_reducible apply And.intro)) <;> (repeat (first | with_reducible assumption | with_reducible apply keep_alloc | with_reducible apply keep_drew | with_reducible refine keep_below hb1 ?_ | ((with_reducible refine keep_set ?_ ?_); rotate_left; (simp <;> omega)))))) (first | (go_at_call 114; refine (beside_i _ _ _ _ _).mono ?_; rw [HW.out]; rintro e w1 ⟨rfl, hb1⟩))
              go_wp2
              exact ⟨⟨j + 1, p, by omega, by go_num, rfl, HP.out, (by (repeat (first | with_reducible exact Below.refl _ _ | with_reducible assumption | with_reducible apply bel_alloc | with_reducible apply bel_drew | with_reducible apply bel_drewN | ((with_reducible refine bel_set ?_ ?_); rotate_left; (simp <;> omega)) | (with_reducible refine bel_trans ?_ (by with_reducible assumption)))))⟩, by simp [intOf]; omega⟩
          · have hjk : j = k := by omega
            have HP : Hid (p = inner xs (k + 1)) := by
              unfold Hid
              rw [HIN.out, hp, HQ.out, hjk]
            have hj5 : ¬ (j : Int) < (k : Int) := by omega
            clear hjk hp
            go_wp2
            exact ⟨⟨k + 1, p, by omega, by go_num, rfl, HP.out, (by (repeat (first | with_reducible exact Below.refl _ _ | with_reducible assumption | with_reducible apply bel_alloc | with_reducible apply bel_drew | with_reducible apply bel_drewN | ((with_reducible refine bel_set ?_ ?_); rotate_left; (simp <;> omega)) | (with_reducible refine bel_trans ?_ (by with_reducible assumption)))))⟩, by simp [intOf]; omega⟩
      · have hkk : k = n := by omega
        subst hkk
        have HQ := Lib.hid hq
        clear hq
        go_wp2
        go_ret
        exact ⟨by rw [HV.out, ← HQ.out]; rfl, (by (repeat (first | with_reducible exact Below.refl _ _ | with_reducible assumption | with_reducible apply bel_alloc | with_reducible apply bel_drew | with_reducible apply bel_drewN | ((with_reducible refine bel_set ?_ ?_); rotate_left; (simp <;> omega)) | (with_reducible refine bel_trans ?_ (by with_reducible assumption)))))⟩
set_option maxHeartbeats 800000 in
theorem InnerSides_s (A : Option Addr) (n c : Nat) (xs : List C) (w : World) (hr : Rd w A (vC xs)) (hl : xs.length = n) (hn : n ≤ 1099511627776) :
    Calls Try.prog 106 #[.slice A n c] w (Ret w (.int .i64 (innerV xs : Nat))) := by
  have HL := Lib.hid hl
  cases hs : isShape xs with
  | false =>
    have HV : Hid (innerV xs = 0) := by show innerV xs = 0; unfold innerV; rw [hs]; rfl
    have HS := Lib.hid hs
    clear hs hl
    go_enter Try.func106, Try.ntmps106
    go_wp2
    go_loopw [4, 3] (fun i s wr => i = .int .i64 0 ∧ s = .int .i64 0 ∧ Below w.heap.size w wr) (fun i _ _ => 1 - (intOf i).toNat)
    case atStart => exact ⟨rfl, rfl, (by (repeat (first | with_reducible exact Below.refl _ _ | with_reducible assumption | with_reducible apply bel_alloc | with_reducible apply bel_drew | with_reducible apply bel_drewN | ((with_reducible refine bel_set ?_ ?_); rotate_left; (simp <;> omega)) | (with_reducible refine bel_trans ?_ (by with_reducible assumption)))))⟩
    case round =>
      obtain ⟨rfl, rfl, hb⟩ := hrel
      go_wp2_with (go_at_call 76; refine (IsShape_s _ _ _ xs _ (hr.below hb) HL.out (by omega)).mono ?_; rw [HS.out]; rintro e w2 ⟨rfl, hb2⟩)
      all_goals
        go_ret
        exact ⟨by rw [HV.out]; rfl, (by (repeat (first | with_reducible exact Below.refl _ _ | with_reducible assumption | with_reducible apply bel_alloc | with_reducible apply bel_drew | with_reducible apply bel_drewN | ((with_reducible refine bel_set ?_ ?_); rotate_left; (simp <;> omega)) | (with_reducible refine bel_trans ?_ (by with_reducible assumption)))))⟩
  | true =>
    have HV : Hid (innerV xs = inner xs n) := by show innerV xs = inner xs n; unfold innerV; rw [hs, hl]; rfl
    have hlen := shape_len hs
    have hsm := shape_small hs
    have hn8 : n ≤ 8 := by omega
    have hn1 : 1 ≤ n := by omega
    have HS := Lib.hid hs
    have HSM := Lib.hid hsm
    clear hs hlen hsm hl hn
    go_enter Try.func106, Try.ntmps106
    go_wp2
    go_loopw [4, 3] (fun i s wr => ∃ k q : Nat, k ≤ n ∧ i = .int .i64 k ∧ s = .int .i64 q ∧ q = inner xs k ∧ Below w.heap.size w wr) (fun i _ _ => n - (intOf i).toNat)
    case atStart => exact ⟨0, 0, Nat.zero_le _, rfl, rfl, rfl, (by (repeat (first | with_reducible exact Below.refl _ _ | with_reducible assumption | with_reducible apply bel_alloc | with_reducible apply bel_drew | with_reducible apply bel_drewN | ((with_reducible refine bel_set ?_ ?_); rotate_left; (simp <;> omega)) | (with_reducible refine bel_trans ?_ (by with_reducible assumption)))))⟩
    case round =>
      obtain ⟨k, q, hk, rfl, rfl, hq, hb⟩ := hrel
      by_cases hlt : k < n
      · have hkx : k < xs.length := by rw [HL.out]; omega
        have hin : inner xs (k + 1) = inner xs k + (xs.take k).countP fun d => near xs[k] d := by
          simp only [inner]
          rw [List.getD_eq_getElem?_getD, List.getElem?_eq_getElem hkx]; rfl
        have hi0 : (0 : Int) ≤ (k : Int) := by omega
        have hi1 : (k : Int) < (n : Int) := by omega
        have hile := inner_le xs k (by omega)
        have HQ := Lib.hid hq
        have HIN := Lib.hid hin
        have hq64 : q ≤ 64 := by omega
        clear hq hin hile
        go_wp2_with (go_at_call 76; refine (IsShape_s _ _ _ xs _ (hr.below hb) HL.out (by omega)).mono ?_; rw [HS.out]; rintro e w2 ⟨rfl, hb2⟩)
        go_loopw [5, 3] (fun i s wr => ∃ j p : Nat, j ≤ k ∧ i = .int .i64 j ∧ s = .int .i64 p ∧ p = q + ((xs.take j).countP fun d => near xs[k] d) ∧ Below w.heap.size w wr) (fun i _ _ => k - (intOf i).toNat)
        case atStart => exact ⟨0, q, Nat.zero_le _, rfl, rfl, rfl, (by (repeat (first | with_reducible exact Below.refl _ _ | with_reducible assumption | with_reducible apply bel_alloc | with_reducible apply bel_drew | with_reducible apply bel_drewN | ((with_reducible refine bel_set ?_ ?_); rotate_left; (simp <;> omega)) | (with_reducible refine bel_trans ?_ (by with_reducible assumption)))))⟩
        case round =>
          clear hb
          obtain ⟨j, p, hj, rfl, rfl, hp, hb⟩ := hrel
          by_cases hlj : j < k
          · have hjx : j < xs.length := by omega
            have hrw := hr.below hb
            obtain ⟨g, off, rfl, hgw, c1, c2⟩ := RdC.at_ hrw hkx
            have d12 : wr.cell? ⟨g, off + j * 2, none⟩ = some (.int .i64 xs[j].1) ∧ wr.cell? ⟨g, off + j * 2 + 1, none⟩ = some (.int .i64 xs[j].2) := by
              obtain ⟨g', off', e, _, h1, h2⟩ := RdC.at_ hrw hjx
              simp only [Option.some.injEq, Addr.mk.injEq, and_true] at e
              obtain ⟨rfl, rfl⟩ := e
              exact ⟨h1, h2⟩
            obtain ⟨d1, d2⟩ := d12
            have ht := countP_take (fun d => near xs[k] d) xs j hjx
            have hne := nearS_eq (HSM.out _ (List.getElem_mem hkx)) (HSM.out _ (List.getElem_mem hjx))
            have hpb : ((xs.take j).countP fun d => near xs[k] d) ≤ j := Nat.le_trans (countP_le' _ _) (by rw [List.length_take]; omega)
            have hp2 : p ≤ 80 := by omega
            obtain ⟨⟨x, y⟩, hx⟩ : ∃ p, xs[k] = p := ⟨_, rfl⟩
            obtain ⟨⟨x', y'⟩, hx'⟩ : ∃ p, xs[j] = p := ⟨_, rfl⟩
            rw [hx] at c1 c2
            rw [hx'] at d1 d2
            rw [hx'] at ht
            rw [hx, hx'] at hne
            have hi2 : (0 : Int) ≤ (j : Int) := by omega
            have hi3 : (j : Int) < (n : Int) := by omega
            cases hv : near (x, y) (x', y') with
            | true =>
              have HP : Hid (p + 1 = q + ((xs.take (j + 1)).countP fun d => near xs[k] d)) := by
                unfold Hid
                rw [ht, hx, hv]
                rw [hx] at hp
                simp only [if_true]
                omega
              rw [hv] at hne
              have HW := Lib.hid hne
              clear ht hx hx' hp hpb hne hv
              go_wp2_with fail
              go_region_held3 (fun w' => w'.cell? ⟨g, off + k * 2, none⟩ = some (.int .i64 x) ∧ w'.cell? ⟨g, off + k * 2 + 1, none⟩ = some (.int .i64 y) ∧ w'.cell? ⟨g, off + j * 2, none⟩ = some (.int .i64 x') ∧ w'.cell? ⟨g, off + j * 2 + 1, none⟩ = some (.int .i64 y'))
                ((go_split_ands; (try dsimp only); (repeat' (with_reducible apply And.intro)) <;> (repeat (first | with_reducible assumption | with_reducible apply keep_alloc | with_reducible apply keep_drew | with_reducible refine keep_below hb1 ?_ | ((with_reducible refine keep_set ?_ ?_); rotate_left; (simp <;> omega)))))) (first | (go_at_call 81; refine (l2Near_s _ _ _ _ _).mono ?_; rw [HW.out]; rintro e w1 ⟨rfl, hb1⟩))
              go_wp2
              exact ⟨⟨j + 1, p + 1, by omega, by go_num, by go_num, HP.out, (by (repeat (first | with_reducible exact Below.refl _ _ | with_reducible assumption | with_reducible apply bel_alloc | with_reducible apply bel_drew | with_reducible apply bel_drewN | ((with_reducible refine bel_set ?_ ?_); rotate_left; (simp <;> omega)) | (with_reducible refine bel_trans ?_ (by with_reducible assumption)))))⟩, by simp [intOf]; omega⟩
            | false =>
              have HP : Hid (p = q + ((xs.take (j + 1)).countP fun d => near xs[k] d)) := by
                unfold Hid
                rw [ht, hx, hv]
                rw [hx] at hp
                simp only [Bool.false_eq_true, if_false]
                omega
              rw [hv] at hne
              have HW := Lib.hid hne
              clear ht hx hx' hp hpb hne hv
              go_wp2_with fail
              go_region_held3 (fun w' => w'.cell? ⟨g, off + k * 2, none⟩ = some (.int .i64 x) ∧ w'.cell? ⟨g, off + k * 2 + 1, none⟩ = some (.int .i64 y) ∧ w'.cell? ⟨g, off + j * 2, none⟩ = some (.int .i64 x') ∧ w'.cell? ⟨g, off + j * 2 + 1, none⟩ = some (.int .i64 y'))
                ((go_split_ands; (try dsimp only); (repeat' (with_reducible apply And.intro)) <;> (repeat (first | with_reducible assumption | with_reducible apply keep_alloc | with_reducible apply keep_drew | with_reducible refine keep_below hb1 ?_ | ((with_reducible refine keep_set ?_ ?_); rotate_left; (simp <;> omega)))))) (first | (go_at_call 81; refine (l2Near_s _ _ _ _ _).mono ?_; rw [HW.out]; rintro e w1 ⟨rfl, hb1⟩))
              go_wp2
              exact ⟨⟨j + 1, p, by omega, by go_num, rfl, HP.out, (by (repeat (first | with_reducible exact Below.refl _ _ | with_reducible assumption | with_reducible apply bel_alloc | with_reducible apply bel_drew | with_reducible apply bel_drewN | ((with_reducible refine bel_set ?_ ?_); rotate_left; (simp <;> omega)) | (with_reducible refine bel_trans ?_ (by with_reducible assumption)))))⟩, by simp [intOf]; omega⟩
          · have hjk : j = k := by omega
            have HP : Hid (p = inner xs (k + 1)) := by
              unfold Hid
              rw [HIN.out, hp, HQ.out, hjk]
            have hj5 : ¬ (j : Int) < (k : Int) := by omega
            clear hjk hp
            go_wp2
            exact ⟨⟨k + 1, p, by omega, by go_num, rfl, HP.out, (by (repeat (first | with_reducible exact Below.refl _ _ | with_reducible assumption | with_reducible apply bel_alloc | with_reducible apply bel_drew | with_reducible apply bel_drewN | ((with_reducible refine bel_set ?_ ?_); rotate_left; (simp <;> omega)) | (with_reducible refine bel_trans ?_ (by with_reducible assumption)))))⟩, by simp [intOf]; omega⟩
      · have hkk : k = n := by omega
        subst hkk
        have HQ := Lib.hid hq
        clear hq
        go_wp2
        go_ret
        exact ⟨by rw [HV.out, ← HQ.out]; rfl, (by (repeat (first | with_reducible exact Below.refl _ _ | with_reducible assumption | with_reducible apply bel_alloc | with_reducible apply bel_drew | with_reducible apply bel_drewN | ((with_reducible refine bel_set ?_ ?_); rotate_left; (simp <;> omega)) | (with_reducible refine bel_trans ?_ (by with_reducible assumption)))))⟩
end Go.Proofs.Ytglilkneipfheaa

/- The perimeter of a shape: both sides. -/
namespace Go.Proofs.Ytglilkneipfheaa
open Go.RowKit
set_option linter.unusedVariables false
attribute [local go_sem ↓] Go.wp_at_zero Go.wp_at_succ

def perV (s : List C) : Int := 4 * (s.length : Nat) - 2 * (innerV s : Nat)
theorem perV_le {s : List C} (hs : isShape s = true) : innerV s ≤ 64 := by
  have h8 := (shape_len hs).2
  unfold innerV
  rw [if_pos hs]
  have := inner_le s s.length h8
  omega
set_option maxHeartbeats 800000 in
theorem PerimeterOf_i (A : Option Addr) (n c : Nat) (xs : List C) (w : World) (hr : Rd w A (vC xs)) (hl : xs.length = n) (hs : isShape xs = true) :
    Calls Try.prog 95 #[.slice A n c] w (Ret w (.int .i64 (perV xs))) := by
  have hn8 := (shape_len hs).2
  rw [hl] at hn8
  have hin := perV_le hs
  have hV : perV xs = 4 * (n : Int) - 2 * (innerV xs : Nat) := by unfold perV; rw [hl]
  obtain ⟨q, hq⟩ : ∃ q, innerV xs = q := ⟨_, rfl⟩
  rw [hq] at hV hin
  have HV := Lib.hid hV
  have HQ := Lib.hid hq
  have HL := Lib.hid hl
  have HR := Lib.hid hr
  have HS := Lib.hid hs
  have e1 : IntKind.i64.wrap (4 * (n : Int)) = 4 * (n : Int) := Go.IntWalk.i64_in _ (by omega)
  have e2 : IntKind.i64.wrap (2 * (q : Int)) = 2 * (q : Int) := Go.IntWalk.i64_in _ (by omega)
  have e3 : IntKind.i64.wrap (4 * (n : Int) - 2 * (q : Int)) = 4 * (n : Int) - 2 * (q : Int) := Go.IntWalk.i64_in _ (by omega)
  have hnn : n ≤ 1099511627776 := by omega
  clear hl hr hs hV hq
  go_enter Try.func95, Try.ntmps95
  go_wp2_with fail
  refine (IsShape_i A n c xs _ HR.out HL.out hnn).mono ?_
  rw [HS.out]
  rintro e w1 ⟨rfl, hb1⟩
  have HC : Hid (∀ w', Below w1.heap.size w1 w' → Calls Try.prog 104 #[.slice A n c] w' (Ret w' (.int .i64 (q : Int)))) := fun w' hb => by
    have h := InnerSides_i A n c xs w' ((HR.out.below hb1).below hb) HL.out hnn
    rw [HQ.out] at h
    exact h
  go_wp2_with fail
  refine (HC.out _ (Below.refl _ _)).mono ?_
  rintro e w2 ⟨rfl, hb2⟩
  go_wp2_with fail
  go_ret
  exact ⟨by rw [HV.out]; rfl, bel_trans hb1 hb2⟩
set_option maxHeartbeats 800000 in
theorem PerimeterOf_s (A : Option Addr) (n c : Nat) (xs : List C) (w : World) (hr : Rd w A (vC xs)) (hl : xs.length = n) (hs : isShape xs = true) :
    Calls Try.prog 97 #[.slice A n c] w (Ret w (.int .i64 (perV xs))) := by
  have hn8 := (shape_len hs).2
  rw [hl] at hn8
  have hin := perV_le hs
  have hV : perV xs = 4 * (n : Int) - 2 * (innerV xs : Nat) := by unfold perV; rw [hl]
  obtain ⟨q, hq⟩ : ∃ q, innerV xs = q := ⟨_, rfl⟩
  rw [hq] at hV hin
  have HV := Lib.hid hV
  have HQ := Lib.hid hq
  have HL := Lib.hid hl
  have HR := Lib.hid hr
  have HS := Lib.hid hs
  have e1 : IntKind.i64.wrap (4 * (n : Int)) = 4 * (n : Int) := Go.IntWalk.i64_in _ (by omega)
  have e2 : IntKind.i64.wrap (2 * (q : Int)) = 2 * (q : Int) := Go.IntWalk.i64_in _ (by omega)
  have e3 : IntKind.i64.wrap (4 * (n : Int) - 2 * (q : Int)) = 4 * (n : Int) - 2 * (q : Int) := Go.IntWalk.i64_in _ (by omega)
  have hnn : n ≤ 1099511627776 := by omega
  clear hl hr hs hV hq
  go_enter Try.func97, Try.ntmps97
  go_wp2_with fail
  refine (IsShape_s A n c xs _ HR.out HL.out hnn).mono ?_
  rw [HS.out]
  rintro e w1 ⟨rfl, hb1⟩
  have HC : Hid (∀ w', Below w1.heap.size w1 w' → Calls Try.prog 106 #[.slice A n c] w' (Ret w' (.int .i64 (q : Int)))) := fun w' hb => by
    have h := InnerSides_s A n c xs w' ((HR.out.below hb1).below hb) HL.out hnn
    rw [HQ.out] at h
    exact h
  go_wp2_with fail
  refine (HC.out _ (Below.refl _ _)).mono ?_
  rintro e w2 ⟨rfl, hb2⟩
  go_wp2_with fail
  go_ret
  exact ⟨by rw [HV.out]; rfl, bel_trans hb1 hb2⟩
end Go.Proofs.Ytglilkneipfheaa

/- The laws' own functions on integers and slices of integers: copying, comparing, marking. -/
namespace Go.Proofs.Ytglilkneipfheaa
open Go.RowKit
set_option linter.unusedVariables false
attribute [local go_sem ↓] Go.wp_at_zero Go.wp_at_succ

end Go.Proofs.Ytglilkneipfheaa

/- A table of shapes by a number, whatever function counts: the program. -/
namespace Go.Proofs.Ytglilkneipfheaa
open Go.RowKit
set_option linter.unusedVariables false
attribute [local go_sem ↓] Go.wp_at_zero Go.wp_at_succ

theorem fixA_shape2 (n : Int) : ∀ x ∈ fixA n, isShape x = true := by
  intro x hx
  unfold fixA at hx
  split at hx
  · exact (fixV_fine _).2 x hx
  · simp at hx
theorem fixA_len2 (n : Int) : (fixA n).length ≤ 1048576 := by
  unfold fixA
  split
  · have h1 := fixV_len (n.toNat - 1); have h2 := pow32 (n.toNat - 1) (by omega); omega
  · simp
theorem zeI13b : zeI 13 = List.replicate 13 0 := rfl
theorem tab_own2 {w : World} {base g k : Nat} {T : List Int} {z : Int} (h : w.ownsRow base 3 1 (.slice (some ⟨g, 0, none⟩) 13 13) 13 (vI T)) : (w.setCell ⟨g, k, none⟩ (.int .i64 z)).ownsRow base 3 1 (.slice (some ⟨g, 0, none⟩) 13 13) 13 (vI (T.set k z)) := by
  have hst := (h.stored k (.int .i64 z)).1
  rw [show (vI T).set k (.int .i64 z) = vI (T.set k z) from by simp [vI, List.map_set]] at hst
  exact hst
set_option maxRecDepth 100000 in
set_option maxHeartbeats 6400000 in
theorem table_g (fid : FuncId) (hfc : ∀ v wq, (callFunc fid #[v]).run Try.prog wq = .ok (.enter fid #[v]) wq) (g : List C → Int) (n : Int) (w : World) (hgi : ∀ (A : Option Addr) (q c : Nat) (xs : List C) (w : World), Rd w A (vC xs) → xs.length = q → isShape xs = true → Calls Try.prog fid #[.slice A q c] w (Ret w (.int .i64 (g xs))))
    (hnb : ∀ x ∈ fixA n, ∃ k : Nat, k ≤ 12 ∧ g x = k) : Calls Try.prog 92 #[.int .i64 n, .func (.func fid) #[] #[]] w (RetS w 3 1 (vI (tabVG g (fixA n)))) := by
  have hsh := fixA_shape2 n
  have hfl := fixA_len2 n
  obtain ⟨F, hF⟩ : ∃ F, fixA n = F := ⟨_, rfl⟩
  rw [hF] at hsh hnb hfl
  have hmk : ∀ wq, (Instr.makeSlice 24 (.int .i64 13) (.int .i64 13)).run Try.prog wq = _ := fun wq => mk_I wq 13 (by omega)
  have HSH := Lib.hid hsh
  have HGI := Lib.hid hgi
  have HNB := Lib.hid hnb
  have HF := Lib.hid hF
  clear hsh hnb hF hgi
  go_enter Try.func92, Try.ntmps92
  go_wp2_with fail
  refine (FixedShapes_i n _).mono ?_
  rw [HF.out]
  rintro e w1 ⟨A0, m, c, hs, rfl, hO, hb1⟩
  have hml : F.length = m := hO.flen
  by_cases h0 : m = 0
  · subst h0
    have hF0 : F = [] := List.length_eq_zero_iff.1 hml
    have HV : Hid (tabVG g F = []) := by show tabVG g F = []; unfold tabVG; rw [if_pos hF0]
    clear hO hml hF0
    go_wp2_with fail
    go_ret
    exact ⟨none, 0, 0, rfl, by rw [HF.out, HV.out]; exact own_nil _ _ _ _, hb1⟩
  · have hm0 : ((m : Int) == 0) = false := by rw [beq_eq_false_iff_ne]; omega
    have HV : Hid (tabVG g F = tabToG g F m) := by show tabVG g F = _; unfold tabVG; rw [if_neg (fun e => h0 (by rw [← hml, e]; rfl)), hml]
    have HRF := Lib.hid hO.rd
    have HFL := Lib.hid hml
    have HI : Hid ((w1.alloc (.cells (vI (zeI 13)).toArray 3)).ownsRow w1.heap.size 3 1 (.slice (some ⟨w1.heap.size, 0, none⟩) 13 13) 13 (vI (tabToG g F 0))) := own_new w1 _ 1 13 _ rfl (by simp [maxLen]) (Nat.le_refl _)
    have hbz := hb1.size
    have hmb : m ≤ 1048576 := by omega
    clear hO hml hfl
    go_wp2_with fail
    go_loopw [18] (fun e5 wr => ∃ (i : Nat), i ≤ m ∧ e5 = .int .i64 i ∧ wr.ownsRow w1.heap.size 3 1 (.slice (some ⟨w1.heap.size, 0, none⟩) 13 13) 13 (vI (tabToG g F i)) ∧ Below w1.heap.size w1 wr) (fun e5 _ => m - (intOf e5).toNat)
    case atStart => exact ⟨0, Nat.zero_le _, rfl, HI.out, bel_alloc (Below.refl _ _) _⟩
    case round =>
      clear HI
      obtain ⟨i, hi, rfl, hO, hb⟩ := hrel
      by_cases hlt : i < m
      · have hi0 : (0 : Int) ≤ (i : Int) := by omega
        have hi1 : (i : Int) < (m : Int) := by omega
        obtain ⟨x, t, gA, off, hsx, hfx, hAe, hg, d1, hrow⟩ := (HRF.out.below hb).at_ hlt
        have htF := List.mem_of_getElem? hfx
        have htsh := HSH.out t htF
        obtain ⟨k, hk12, hnk⟩ := HNB.out t htF
        have hiF : i < F.length := by rw [HFL.out]; exact hlt
        have hst := tabToG_succ g F i hiF
        rw [show F[i] = t from by rw [List.getElem?_eq_getElem hiF] at hfx; injection hfx] at hst
        unfold tabStepG at hst
        rw [hnk, Int.toNat_natCast] at hst
        have htl := tabToG_len g F i (by omega)
        have hle := tabToG_le g F i (by omega)
        obtain ⟨T, hT⟩ : ∃ T, tabToG g F i = T := ⟨_, rfl⟩
        rw [hT] at hst htl hO hle
        have hkT : k < T.length := by omega
        have hgd : T.getD k 0 = T[k] := by rw [List.getD, List.getElem?_eq_getElem hkT]; rfl
        rw [hgd] at hst
        have hzb := hle _ (List.getElem_mem hkT)
        have hcell : (vI T)[k]? = some (.int .i64 T[k]) := by simp only [vI, List.getElem?_map, List.getElem?_eq_getElem hkT, Option.map_some]
        obtain ⟨z, hz⟩ : ∃ z, T[k] = z := ⟨_, rfl⟩
        rw [hz] at hst hzb hcell
        have hzw : IntKind.i64.wrap (z + 1) = z + 1 := Go.IntWalk.i64_in _ (by omega)
        obtain ⟨C1, m1, k1⟩ := x
        have hl1 : t.length = m1 := hrow.1
        have HL1 := Lib.hid hl1
        have HT := Lib.hid htsh
        have HROW := Lib.hid hrow
        have HST := Lib.hid hst
        have HCE := Lib.hid hcell
        have HO := Lib.hid hO
        have HNK := Lib.hid hnk
        dsimp only at d1
        cases hAe
        (try simp only [Nat.zero_add] at d1)
        clear hsx hfx htF hst htl hle hT hkT hgd hcell hz hrow hl1 hO hnk htsh
        go_wp2_with fail
        refine (HGI.out C1 m1 k1 t _ HROW.out.2.1 HL1.out HT.out).mono ?_
        rw [HNK.out]
        rintro e w2 ⟨rfl, hb2⟩
        clear d1
        go_wp2_with fail
        refine (between_t (k : Int) 0 12 _ (by omega) (by omega)).mono ?_
        rintro e w3 ⟨rfl, hb3⟩
        have HO2 := Lib.hid (own_keep HO.out (bel_trans hb2 hb3))
        have y1 := HO2.out.cellAt k (by omega)
        rw [HCE.out] at y1
        have f1 := HO2.out.frozenAt k
        have hgg0 := (own_lt HO2.out _ rfl).2
        have hk0 : (0 : Int) ≤ (k : Int) := by omega
        have hk1 : (k : Int) < 13 := by omega
        have HO3 := Lib.hid (tab_own2 (k := k) (z := z + 1) HO2.out)
        go_wp2_with fail
        exact ⟨⟨i + 1, by omega, by go_num, by rw [HST.out]; exact HO3.out, bel_grown (bel_trans hb (bel_trans hb2 hb3)) (grown_set (World.grownBy.refl _ (some w1.heap.size)) rfl _) (fun q e => by injection e with e; omega)⟩, by simp [intOf]; omega⟩
      · obtain rfl : i = m := by omega
        rw [← HV.out] at hO
        have HO := Lib.hid hO
        have hi1 : ¬ (i : Int) < (i : Int) := by omega
        clear hO
        go_wp2_with fail
        go_ret
        exact ⟨_, 13, 13, rfl, by rw [HF.out]; exact own_base HO.out hbz, bel_trans hb1 hb⟩
def perH (s : List C) : Int := (perV s).tdiv 2
theorem per_fix (k : Nat) (h : k ≤ 4) : ∀ x ∈ fixV k, 0 ≤ perH x ∧ perH x ≤ 12 := by
  have hf : ∀ x ∈ fixF k, 0 ≤ perH x ∧ perH x ≤ 12 := by
    rcases (by omega : k = 0 ∨ k = 1 ∨ k = 2 ∨ k = 3 ∨ k = 4) with rfl | rfl | rfl | rfl | rfl <;> decide +kernel
  rw [fixF_eq] at hf
  exact hf
theorem fixA_per (n : Int) : ∀ x ∈ fixA n, ∃ k : Nat, k ≤ 12 ∧ perH x = k := by
  intro x hx
  unfold fixA at hx
  split at hx
  · rename_i h
    obtain ⟨h1, h2⟩ := per_fix _ (by omega) x hx
    exact ⟨(perH x).toNat, by omega, by omega⟩
  · simp at hx
theorem perFn_i (A : Option Addr) (n c : Nat) (xs : List C) (w : World) (hr : Rd w A (vC xs)) (hl : xs.length = n) (hs : isShape xs = true) :
    Calls Try.prog 94 #[.slice A n c] w (Ret w (.int .i64 (perH xs))) := by
  have hin := perV_le hs
  have hn8 := shape_len hs
  have hb : -200 ≤ perV xs ∧ perV xs ≤ 200 := by unfold perV; omega
  obtain ⟨q, hq⟩ : ∃ q, perV xs = q := ⟨_, rfl⟩
  have HP : Hid (perH xs = q.tdiv 2) := by show perH xs = _; unfold perH; rw [hq]
  have HQ := Lib.hid hq
  rw [hq] at hb
  have hd : -200 ≤ q.tdiv 2 ∧ q.tdiv 2 ≤ 200 := by
    rcases Int.le_total 0 q with h | h
    · rw [Int.tdiv_eq_ediv_of_nonneg h]; omega
    · have e : q.tdiv 2 = -((-q).tdiv 2) := by rw [Int.neg_tdiv, Int.neg_neg]
      rw [e, Int.tdiv_eq_ediv_of_nonneg (by omega)]; omega
  have hw : IntKind.i64.wrap (q.tdiv 2) = q.tdiv 2 := Go.IntWalk.i64_in _ (by omega)
  have HR := Lib.hid hr
  have HL := Lib.hid hl
  have HS := Lib.hid hs
  clear hq hr hl hs
  go_enter Try.func94, Try.ntmps94
  go_wp2_with fail
  refine (PerimeterOf_i A n c xs _ HR.out HL.out HS.out).mono ?_
  rw [HQ.out]
  rintro e w1 ⟨rfl, hb1⟩
  go_wp2_with fail
  go_ret
  exact ⟨by rw [HP.out]; rfl, hb1⟩
theorem PerimeterTable_i (n : Int) (w : World) : Calls Try.prog 48 #[.int .i64 n] w (RetS w 3 1 (vI (tabVG perH (fixA n)))) := by
  go_enter Try.func48, Try.ntmps48
  go_wp2_with fail
  refine (table_g _ (fun v wq => by simp [go_sem]) perH n _ perFn_i (fixA_per n)).mono ?_
  rintro e w1 ⟨A, m, c, rfl, hO, hb⟩
  have HO := Lib.hid hO
  clear hO
  go_wp2_with fail
  go_ret
  exact ⟨A, m, c, rfl, HO.out, hb⟩
end Go.Proofs.Ytglilkneipfheaa

/- Shapes counted by half their perimeters: the reference; and the law. -/
namespace Go.Proofs.Ytglilkneipfheaa
open Go.RowKit
set_option linter.unusedVariables false
attribute [local go_sem ↓] Go.wp_at_zero Go.wp_at_succ

set_option maxRecDepth 100000 in
set_option maxHeartbeats 6400000 in
theorem PerimeterTable_s (n : Int) (w : World) : Calls Try.prog 50 #[.int .i64 n] w (RetS w 3 1 (vI (tabVG perH (fixA n)))) := by
  have hsh := fixA_shape2 n
  have hnb := fixA_per n
  have hfl := fixA_len2 n
  obtain ⟨F, hF⟩ : ∃ F, fixA n = F := ⟨_, rfl⟩
  rw [hF] at hsh hnb hfl
  have hmk : ∀ wq, (Instr.makeSlice 24 (.int .i64 13) (.int .i64 13)).run Try.prog wq = _ := fun wq => mk_I wq 13 (by omega)
  have HSH := Lib.hid hsh
  have HNB := Lib.hid hnb
  have HF := Lib.hid hF
  clear hsh hnb hF
  go_enter Try.func50, Try.ntmps50
  go_wp2_with fail
  refine (FixedShapes_s n _).mono ?_
  rw [HF.out]
  rintro e w1 ⟨g, m, c, hs, rfl, hO, hb1⟩
  have hml : F.length = m := hO.flen
  by_cases h0 : m = 0
  · subst h0
    have hF0 : F = [] := List.length_eq_zero_iff.1 hml
    have HV : Hid (tabVG perH F = []) := by show tabVG perH F = []; unfold tabVG; rw [if_pos hF0]
    have HI : Hid ((w1.alloc (.cells #[] 3)).ownsRow w.heap.size 3 1 (.slice (some ⟨w1.heap.size, 0, none⟩) 0 0) 0 (vI [])) := own_new w1 _ 1 0 #[] rfl (by simp [maxLen]) hb1.size
    clear hO hml hF0
    go_wp2_with fail
    go_ret
    exact ⟨_, 0, 0, rfl, by rw [HF.out, HV.out]; exact HI.out, bel_alloc hb1 _⟩
  · have hm0 : ((m : Int) == 0) = false := by rw [beq_eq_false_iff_ne]; omega
    have HV : Hid (tabVG perH F = tabToG perH F m) := by show tabVG perH F = _; unfold tabVG; rw [if_neg (fun e => h0 (by rw [← hml, e]; rfl)), hml]
    have HRF := Lib.hid hO.rd
    have HFL := Lib.hid hml
    have HI : Hid ((w1.alloc (.cells (vI (zeI 13)).toArray 3)).ownsRow w1.heap.size 3 1 (.slice (some ⟨w1.heap.size, 0, none⟩) 13 13) 13 (vI (tabToG perH F 0))) := own_new w1 _ 1 13 _ rfl (by simp [maxLen]) (Nat.le_refl _)
    have hbz := hb1.size
    have hmb : m ≤ 1048576 := by omega
    clear hO hml hfl
    go_wp2_with fail
    go_loopw [5] (fun e5 wr => ∃ (i : Nat), i ≤ m ∧ e5 = .int .i64 i ∧ wr.ownsRow w1.heap.size 3 1 (.slice (some ⟨w1.heap.size, 0, none⟩) 13 13) 13 (vI (tabToG perH F i)) ∧ Below w1.heap.size w1 wr) (fun e5 _ => m - (intOf e5).toNat)
    case atStart => exact ⟨0, Nat.zero_le _, rfl, HI.out, bel_alloc (Below.refl _ _) _⟩
    case round =>
      clear HI
      obtain ⟨i, hi, rfl, hO, hb⟩ := hrel
      by_cases hlt : i < m
      · have hi0 : (0 : Int) ≤ (i : Int) := by omega
        have hi1 : (i : Int) < (m : Int) := by omega
        obtain ⟨x, t, gA, off, hsx, hfx, hAe, hg, d1, hrow⟩ := (HRF.out.below hb).at_ hlt
        have htF := List.mem_of_getElem? hfx
        have htsh := HSH.out t htF
        obtain ⟨k, hk12, hnk⟩ := HNB.out t htF
        have hiF : i < F.length := by rw [HFL.out]; exact hlt
        have hst := tabToG_succ perH F i hiF
        rw [show F[i] = t from by rw [List.getElem?_eq_getElem hiF] at hfx; injection hfx] at hst
        unfold tabStepG at hst
        rw [hnk, Int.toNat_natCast] at hst
        have hnk2 : (perV t).tdiv 2 = (k : Int) := hnk
        have HP0 := Lib.hid hnk2
        obtain ⟨pv, hpv⟩ : ∃ pv, perV t = pv := ⟨_, rfl⟩
        rw [hpv] at hnk2
        have HPV := Lib.hid hpv
        clear hpv HP0
        have htl := tabToG_len perH F i (by omega)
        have hle := tabToG_le perH F i (by omega)
        obtain ⟨T, hT⟩ : ∃ T, tabToG perH F i = T := ⟨_, rfl⟩
        rw [hT] at hst htl hO hle
        have hkT : k < T.length := by omega
        have hgd : T.getD k 0 = T[k] := by rw [List.getD, List.getElem?_eq_getElem hkT]; rfl
        rw [hgd] at hst
        have hzb := hle _ (List.getElem_mem hkT)
        have hcell : (vI T)[k]? = some (.int .i64 T[k]) := by simp only [vI, List.getElem?_map, List.getElem?_eq_getElem hkT, Option.map_some]
        obtain ⟨z, hz⟩ : ∃ z, T[k] = z := ⟨_, rfl⟩
        rw [hz] at hst hzb hcell
        have hzw : IntKind.i64.wrap (z + 1) = z + 1 := Go.IntWalk.i64_in _ (by omega)
        obtain ⟨C1, m1, k1⟩ := x
        have hl1 : t.length = m1 := hrow.1
        have HL1 := Lib.hid hl1
        have HT := Lib.hid htsh
        have HROW := Lib.hid hrow
        have HST := Lib.hid hst
        have HCE := Lib.hid hcell
        have HO := Lib.hid hO
        have HNK := Lib.hid hnk
        dsimp only at d1
        cases hAe
        (try simp only [Nat.zero_add] at d1)
        clear hsx hfx htF hst htl hle hT hkT hgd hcell hz hrow hl1 hO hnk htsh
        go_wp2_with fail
        refine (PerimeterOf_s C1 m1 k1 t _ HROW.out.2.1 HL1.out HT.out).mono ?_
        rw [HPV.out]
        rintro e w2 ⟨rfl, hb2⟩
        have HO2 := Lib.hid (own_keep HO.out hb2)
        have y1 := HO2.out.cellAt k (by omega)
        rw [HCE.out] at y1
        have f1 := HO2.out.frozenAt k
        have hg0 := (own_lt HO2.out _ rfl).2
        have hk0 : (0 : Int) ≤ (k : Int) := by omega
        have hk1 : (k : Int) < 13 := by omega
        have HO3 := Lib.hid (tab_own2 (k := k) (z := z + 1) HO2.out)
        clear d1
        go_wp2_with fail
        exact ⟨⟨i + 1, by omega, by go_num, by rw [HST.out]; exact HO3.out, bel_grown (bel_trans hb hb2) (grown_set (World.grownBy.refl _ (some w1.heap.size)) rfl _) (fun q e => by injection e with e; omega)⟩, by simp [intOf]; omega⟩
      · obtain rfl : i = m := by omega
        rw [← HV.out] at hO
        have HO := Lib.hid hO
        have hi1 : ¬ (i : Int) < (i : Int) := by omega
        clear hO
        go_wp2_with fail
        go_ret
        exact ⟨_, 13, 13, rfl, by rw [HF.out]; exact own_base HO.out hbz, bel_trans hb1 hb⟩
theorem tab_lenP (n : Int) : (tabVG perH (fixA n)).length = 0 ∨ (tabVG perH (fixA n)).length = 13 := by
  unfold tabVG
  split
  · exact .inl rfl
  · exact .inr (tabToG_len _ _ _ (Nat.le_refl _))
theorem own_nT2 {w : World} {base e n c : Nat} {A : Option Addr} {xs : List Int} (h : w.ownsRow base e 1 (.slice A n c) n (vI xs)) : xs.length = n := by
  have := own_len h
  rw [vI_length] at this
  omega
end Go.Proofs.Ytglilkneipfheaa

/- Tables add up; the most neighbours. No program is in sight. -/
namespace Go.Proofs.Ytglilkneipfheaa
open Go.RowKit
set_option linter.unusedVariables false
theorem sum_set1 : ∀ (l : List Int) (k : Nat), k < l.length → (l.set k (l.getD k 0 + 1)).sum = l.sum + 1
  | [], k, h => by simp at h
  | x :: t, 0, h => by simp; omega
  | x :: t, k + 1, h => by
    have := sum_set1 t k (by simpa using h)
    simp only [List.set_cons_succ, List.sum_cons, List.getD_cons_succ]
    omega
theorem fold_sum (g : List C → Int) : ∀ (F : List (List C)) (o : List Int), o.length = 13 → (∀ x ∈ F, ∃ k : Nat, k ≤ 12 ∧ g x = k) → (F.foldl (tabStepG g) o).length = 13 ∧ (F.foldl (tabStepG g) o).sum = o.sum + F.length
  | [], o, h, _ => by simp [h]
  | x :: t, o, h, hF => by
    obtain ⟨k, hk, e⟩ := hF x (List.mem_cons_self ..)
    have e2 : (g x).toNat = k := by rw [e]; exact Int.toNat_natCast k
    have hs : tabStepG g o x = o.set k (o.getD k 0 + 1) := by unfold tabStepG; rw [e2]
    have h1 := sum_set1 o k (by omega)
    obtain ⟨h2, h3⟩ := fold_sum g t (tabStepG g o x) (by rw [hs, List.length_set, h]) fun y hy => hF y (List.mem_cons_of_mem _ hy)
    refine ⟨h2, ?_⟩
    rw [List.foldl_cons, h3, hs, h1, List.length_cons]
    omega
theorem tabG_sum (g : List C → Int) (F : List (List C)) (h0 : F ≠ []) (hF : ∀ x ∈ F, ∃ k : Nat, k ≤ 12 ∧ g x = k) : (tabVG g F).length = 13 ∧ (tabVG g F).sum = F.length := by
  unfold tabVG tabToG
  rw [if_neg h0, List.take_length]
  obtain ⟨h1, h2⟩ := fold_sum g F (List.replicate 13 0) (by simp) hF
  refine ⟨h1, ?_⟩
  rw [h2]
  simp
theorem fold_pos (g : List C → Int) : ∀ (F : List (List C)) (o : List Int), (∀ x ∈ o, 0 ≤ x) → ∀ x ∈ F.foldl (tabStepG g) o, 0 ≤ x
  | [], o, h => h
  | y :: t, o, h => fold_pos g t _ fun x hx => by
    unfold tabStepG at hx
    rcases List.mem_or_eq_of_mem_set hx with h1 | h1
    · exact h x h1
    · rw [h1, List.getD_eq_getElem?_getD]
      cases e : o[(g y).toNat]? with
      | none => simp
      | some z => have := h z (List.mem_of_getElem? e); simp; omega
theorem tabG_pos (g : List C → Int) (F : List (List C)) : ∀ x ∈ tabVG g F, 0 ≤ x := by
  unfold tabVG tabToG
  split
  · simp
  · exact fold_pos g _ _ (by intro x hx; rw [List.eq_of_mem_replicate hx]; exact Int.le_refl _)
theorem sum_prefix : ∀ (T : List Int) (i : Nat), (∀ x ∈ T, 0 ≤ x) → 0 ≤ (T.take i).sum ∧ (T.take i).sum ≤ T.sum
  | [], i, _ => by simp
  | x :: t, 0, h => by
    have h1 := sum_prefix t 0 fun y hy => h y (List.mem_cons_of_mem _ hy)
    have h2 := h x (List.mem_cons_self ..)
    simp at h1 ⊢
    omega
  | x :: t, i + 1, h => by
    have h1 := sum_prefix t i fun y hy => h y (List.mem_cons_of_mem _ hy)
    have h2 := h x (List.mem_cons_self ..)
    simp only [List.take_succ_cons, List.sum_cons]
    omega
theorem tabV_G (F : List (List C)) : tabV F = tabVG nbN F := rfl
theorem fixA_most (n : Int) (h : fixA n ≠ []) : mostTo (tabV (fixA n)) (tabV (fixA n)).length = 2 * n + 2 := by
  unfold fixA at h ⊢
  split at h
  · next hn =>
    rw [if_pos hn]
    rcases (by omega : n = 1 ∨ n = 2 ∨ n = 3 ∨ n = 4 ∨ n = 5) with rfl | rfl | rfl | rfl | rfl
    · show mostTo (tabV (fixV 0)) (tabV (fixV 0)).length = 4
      rw [← fixF_eq]; decide +kernel
    · show mostTo (tabV (fixV 1)) (tabV (fixV 1)).length = 6
      rw [← fixF_eq]; decide +kernel
    · show mostTo (tabV (fixV 2)) (tabV (fixV 2)).length = 8
      rw [← fixF_eq]; decide +kernel
    · show mostTo (tabV (fixV 3)) (tabV (fixV 3)).length = 10
      rw [← fixF_eq]; decide +kernel
    · show mostTo (tabV (fixV 4)) (tabV (fixV 4)).length = 12
      rw [← fixF_eq]; decide +kernel
  · exact absurd rfl h
theorem fixA_cnt (n : Int) (h : fixA n ≠ []) : cntV n 6 = ((fixA n).length : Nat) := by
  unfold fixA at h ⊢
  unfold cntV
  split at h
  · next hn => rw [if_pos hn, if_pos (by omega)]
  · exact absurd rfl h
/-- What the law asks of the tables. -/
theorem sites_ok (n : Int) : (tabV (fixA n) = [] ∧ tabVG perH (fixA n) = []) ∨ ((tabV (fixA n)).length = 13 ∧ (tabVG perH (fixA n)).length = 13 ∧ (tabV (fixA n)).sum = cntV n 6 ∧ (tabVG perH (fixA n)).sum = cntV n 6 ∧ mostTo (tabV (fixA n)) (tabV (fixA n)).length = 2 * n + 2 ∧ 0 < (fixA n).length ∧ 1 ≤ n ∧ n ≤ 5) := by
  by_cases h : fixA n = []
  · left
    rw [h]
    exact ⟨rfl, rfl⟩
  · right
    obtain ⟨h1, h2⟩ := tabG_sum nbN (fixA n) h (fixA_nb n)
    obtain ⟨h3, h4⟩ := tabG_sum perH (fixA n) h (fixA_per n)
    refine ⟨h1, h3, by rw [fixA_cnt n h]; exact h2, by rw [fixA_cnt n h]; exact h4, fixA_most n h, List.length_pos_iff.2 h, ?_⟩
    unfold fixA at h
    split at h
    · next hn => exact hn
    · exact absurd rfl h
end Go.Proofs.Ytglilkneipfheaa

/- append at bytes, inside a region that draws its order too; bytes made a string. -/
namespace Go.Proofs.Ytglilkneipfheaa
open Go.RowKit
set_option linter.unusedVariables false
theorem infoB : (Try.prog.info? 5).map (fun i => (i.zero, i.size, i.bytes)) = some (some (.int .u8 0), 1, 1) := by kernel_rfl
section
variable (w : World) {ops : Array Oper} {rest : List Oper} {o : Oper} {a : Act} {Q : Exit → Act → World → Prop}
theorem wpB (s x : Operand) {K : Act → World → Prop} (ho : o.op = .call { callee := .builtin .append, args := #[s, x], argTypes := #[22, 22] })
    (base : Nat) (A : Option Addr) (n c : Nat) (l : List UInt8) (hs : a.eval s = .slice A n c) (hown : w.ownsRow base 5 1 (.slice A n c) n (vB l))
    (A2 : Option Addr) (m c2 : Nat) (l2 : List UInt8) (hx : a.eval x = .slice A2 m c2) (hr : Rd w A2 (vB l2)) (hl : l2.length = m) (hb : n + m ≤ 1099511627776) (hbase : base ≤ w.heap.size)
    (h : ∀ A' c' w', w'.ownsRow base 5 1 (.slice A' (n + m) c') (n + m) (vB (l ++ l2)) → w.grownBy w' (ob A) → (ob A' = ob A ∨ ob A' = some w.heap.size) → K (a.put o.dst (.slice A' (n + m) c')) w') :
    o.wp Try.prog a w K Q := by
  obtain ⟨i0, hi, hz0, hz1, hz2⟩ := info_parts infoB
  refine wp_app w s x _ ho base _ i0 _ 1 1 Try.underlying22 hi hz0 hz1 hz2 rfl (by omega) A n c _ hs hown A2 m c2 _ hx hr (by rw [vB_length, hl]; omega) (vB_one _) (by unfold maxLen; omega) (by omega) hbase ?_
  intro A' c' w' h1
  rw [← vB_append] at h1
  exact h A' c' w' h1
theorem app_B (hgd : o.guard = none) (s x : Operand) (ho : o.op = .call { callee := .builtin .append, args := #[s, x], argTypes := #[22, 22] })
    (base : Nat) (A : Option Addr) (n c : Nat) (l : List UInt8) (hs : a.eval s = .slice A n c) (hown : w.ownsRow base 5 1 (.slice A n c) n (vB l))
    (A2 : Option Addr) (m c2 : Nat) (l2 : List UInt8) (hx : a.eval x = .slice A2 m c2) (hr : Rd w A2 (vB l2)) (hl : l2.length = m) (hb : n + m ≤ 1099511627776) (hbase : base ≤ w.heap.size)
    (h : ∀ A' c' w', w'.ownsRow base 5 1 (.slice A' (n + m) c') (n + m) (vB (l ++ l2)) → w.grownBy w' (ob A) → (ob A' = ob A ∨ ob A' = some w.heap.size) → wpList Try.prog ops Q rest (a.put o.dst (.slice A' (n + m) c')) w') :
    wpList Try.prog ops Q (o :: rest) a w :=
  wpList_plain hgd fun _ hK => wpB w s x ho base A n c l hs hown A2 m c2 l2 hx hr hl hb hbase fun A' c' w' h1 h2 h3 => hK _ _ (h A' c' w' h1 h2 h3)
theorem step_B {K : Act → World → Prop} {E : Prop} (hgd : o.guard = none) (s x : Operand) (ho : o.op = .call { callee := .builtin .append, args := #[s, x], argTypes := #[22, 22] })
    (base : Nat) (A : Option Addr) (n c : Nat) (l : List UInt8) (hs : a.eval s = .slice A n c) (hown : w.ownsRow base 5 1 (.slice A n c) n (vB l))
    (A2 : Option Addr) (m c2 : Nat) (l2 : List UInt8) (hx : a.eval x = .slice A2 m c2) (hr : Rd w A2 (vB l2)) (hl : l2.length = m) (hb : n + m ≤ 1099511627776) (hbase : base ≤ w.heap.size)
    (h : ∀ A' c' w', w'.ownsRow base 5 1 (.slice A' (n + m) c') (n + m) (vB (l ++ l2)) → w.grownBy w' (ob A) → (ob A' = ob A ∨ ob A' = some w.heap.size) → K (a.put o.dst (.slice A' (n + m) c')) w') :
    if Region.wanted o (yielded ops a.tmps) = true then Oper.wp Try.prog o a w K Q else E := by
  have hw : Region.wanted o (yielded ops a.tmps) = true := by simp [Region.wanted, hgd]
  rw [if_pos hw]
  exact wpB w s x ho base A n c l hs hown A2 m c2 l2 hx hr hl hb hbase h
end
theorem rd_newB (w : World) (t : TypeId) (b : UInt8) : Rd (w.alloc (.cells #[.int .u8 b.toNat] t)) (some ⟨w.heap.size, 0, none⟩) (vB [b]) := rd_new w t _
/-- Bytes made a string. -/
theorem conv_B (w : World) {A : Option Addr} {n c : Nat} {l : List UInt8} (hr : Rd w A (vB l)) (hl : l.length = n) :
    (convert 22 9 (.slice A n c)).run Try.prog w = .ok (.string ⟨l.toArray⟩) w := by
  subst hl
  have e : strOfNums (l.map fun b => (b.toNat : Int)) = ⟨l.toArray⟩ := by
    unfold strOfNums
    congr 2
    rw [List.map_map]
    conv => rhs; rw [← List.map_id l]
    apply List.map_congr_left
    intro b _
    simp
  rcases hr with h | ⟨g, off, rfl, h⟩
  · have h0 : l = [] := by
      have := congrArg List.length h
      rw [vB_length] at this
      exact List.eq_nil_of_length_eq_zero (by simpa using this)
    subst h0
    cases A with
    | none => exact run_convert_bytes_nil w _ _ Try.underlying22 Try.underlying5 _ _ _ Try.underlying9
    | some a =>
      rw [List.length_nil, run_convert_bytes_string w _ _ _ _ _ c Try.underlying22 Try.underlying5 Try.underlying9, run_bytesToString w a 0 c [] (by simp [loadCells, loadCellsFrom])]
      rfl
  · rw [← e]
    refine run_convert_bytes_arg w _ _ Try.underlying22 Try.underlying5 g off _ c _ (by simp) (fun i hi => ?_) _ Try.underlying9
    refine h i _ ?_
    simp [vB, List.getElem?_eq_getElem hi, List.getD_eq_getElem?_getD]
end Go.Proofs.Ytglilkneipfheaa

/- Regions, masks and motions of a grid: plain functions. No program is in sight. -/
namespace Go.Proofs.Ytglilkneipfheaa
open Go.RowKit
set_option linter.unusedVariables false
/-- A region that is right. -/
def isReg (W : Int) (rows : List Int) : Bool :=
  ((decide (1 ≤ W) && decide (W ≤ 6)) && (decide (1 ≤ (rows.length : Int)) && decide ((rows.length : Int) ≤ 6))) && rows.all (fun x => decide (0 ≤ x) && decide (x < 2 ^ W.toNat))
theorem isReg_yes {W : Int} {rows : List Int} (h : isReg W rows = true) :
    ∃ n : Nat, W = (n : Int) ∧ 1 ≤ n ∧ n ≤ 6 ∧ 1 ≤ rows.length ∧ rows.length ≤ 6 ∧ ∀ k (hk : k < rows.length), ∃ q : Nat, rows[k] = (q : Int) ∧ q < 2 ^ n := by
  unfold isReg at h
  simp only [Bool.and_eq_true, decide_eq_true_eq, List.all_eq_true] at h
  obtain ⟨⟨⟨h1, h2⟩, h3, h4⟩, h5⟩ := h
  refine ⟨W.toNat, by omega, by omega, by omega, by omega, by omega, fun k hk => ?_⟩
  obtain ⟨h6, h7⟩ := h5 _ (List.getElem_mem hk)
  obtain ⟨q, hq⟩ := Int.eq_ofNat_of_zero_le h6
  rw [hq] at h7
  exact ⟨q, hq, by exact_mod_cast h7⟩
/-- The mask of the rows below k. -/
def mkTo (n : Nat) (rows : List Int) : Nat → Nat
  | 0 => 0
  | k + 1 => mkTo n rows k + (rows.getD k 0).toNat * 2 ^ (k * n)
theorem mkTo_lt {n : Nat} {rows : List Int} (h : ∀ k (hk : k < rows.length), ∃ q : Nat, rows[k] = (q : Int) ∧ q < 2 ^ n) : ∀ k, k ≤ rows.length → mkTo n rows k < 2 ^ (k * n)
  | 0, _ => by simp [mkTo]
  | k + 1, hk => by
    have h1 := mkTo_lt h k (by omega)
    obtain ⟨q, hq, hlt⟩ := h k (by omega)
    have e : (rows.getD k 0).toNat = q := by rw [List.getD_eq_getElem?_getD, List.getElem?_eq_getElem (by omega), Option.getD_some, hq]; rfl
    show mkTo n rows k + _ < _
    rw [e, Nat.succ_mul, Nat.pow_add]
    have : q + 1 ≤ 2 ^ n := hlt
    calc mkTo n rows k + q * 2 ^ (k * n) < 2 ^ (k * n) + q * 2 ^ (k * n) := by omega
      _ = (q + 1) * 2 ^ (k * n) := by rw [Nat.succ_mul]; omega
      _ ≤ 2 ^ n * 2 ^ (k * n) := Nat.mul_le_mul_right _ this
      _ = 2 ^ (k * n) * 2 ^ n := Nat.mul_comm _ _
/-- A bit that is not there is added. -/
theorem or_bit {a d : Nat} (ha : a < 2 ^ 62) (hd : d < 62) (h : a.testBit d = false) : a ||| 2 ^ d = a + 2 ^ d := by
  have hp : 2 ^ d < 2 ^ 62 := Nat.pow_lt_pow_right (by decide) hd
  have h0 : BitVec.ofNat 64 a &&& BitVec.ofNat 64 (2 ^ d) = 0#64 := by
    apply BitVec.eq_of_toNat_eq
    rw [BitVec.toNat_and, BitVec.toNat_ofNat, BitVec.toNat_ofNat, Nat.mod_eq_of_lt (by omega), Nat.mod_eq_of_lt (by omega)]
    apply Nat.eq_of_testBit_eq
    intro i
    rw [Nat.testBit_and, Nat.testBit_two_pow]
    by_cases e : d = i
    · subst e; simp [h]
    · simp [e]
  have h1 := congrArg BitVec.toNat (BitVec.add_eq_or_of_and_eq_zero _ _ h0)
  rw [BitVec.toNat_add, BitVec.toNat_or, BitVec.toNat_ofNat, BitVec.toNat_ofNat, Nat.mod_eq_of_lt (by omega : a < 2 ^ 64), Nat.mod_eq_of_lt (by omega : 2 ^ d < 2 ^ 64), Nat.mod_eq_of_lt (by omega)] at h1
  exact h1.symm
theorem wraps_i64 (n : Int) (h₀ : 0 ≤ n) (h₁ : n < 2 ^ 63) : IntKind.i64.wrap n = n := by rw [IntKind.wrap_i64]; omega
theorem i64_or (a b : Nat) (ha : a < 2 ^ 63) (hb : b < 2 ^ 63) : bits .or .i64 (a : Int) (b : Int) = ((a ||| b : Nat) : Int) := (bits_nat .i64 63 (by decide) wraps_i64 a b ha hb).2
theorem i64_and (a b : Nat) (ha : a < 2 ^ 63) (hb : b < 2 ^ 63) : bits .and .i64 (a : Int) (b : Int) = ((a &&& b : Nat) : Int) := (bits_nat .i64 63 (by decide) wraps_i64 a b ha hb).1
theorem or_high {a b i : Nat} (ha : a < 2 ^ i) : a ||| b * 2 ^ i = a + b * 2 ^ i := by
  rw [Nat.or_comm, Nat.mul_comm, Nat.add_comm]
  exact (Nat.two_pow_add_eq_or_of_lt ha b).symm
theorem bit_and (m k : Nat) : m / 2 ^ k % 2 = (m.testBit k).toNat := by
  rw [Nat.testBit_eq_decide_div_mod_eq]
  rcases Nat.mod_two_eq_zero_or_one (m / 2 ^ k) with h | h <;> simp [h]
/-- A quarter turn: width, height, place. -/
abbrev Q4 := Int × Int × Int × Int
def quarter (q : Q4) : Q4 := (q.2.1, q.1, q.2.1 - 1 - q.2.2.2, q.2.2.1)
def rot : Nat → Q4 → Q4
  | 0, q => q
  | k + 1, q => quarter (rot k q)
def okQ (q : Q4) : Prop := 1 ≤ q.1 ∧ q.1 ≤ 6 ∧ 1 ≤ q.2.1 ∧ q.2.1 ≤ 6 ∧ 0 ≤ q.2.2.1 ∧ q.2.2.1 < q.1 ∧ 0 ≤ q.2.2.2 ∧ q.2.2.2 < q.2.1
theorem okQ_quarter {q : Q4} (h : okQ q) : okQ (quarter q) := by
  unfold okQ quarter at *
  simp only
  omega
theorem okQ_rot {q : Q4} (h : okQ q) : ∀ k, okQ (rot k q)
  | 0 => h
  | k + 1 => okQ_quarter (okQ_rot h k)
/-- Where a motion carries a place. -/
def startQ (w h x y : Int) (m : Nat) : Q4 := (w, h, if 4 ≤ m then w - 1 - x else x, y)
def carry (w h x y : Int) (m : Nat) : Q4 := rot (m % 4) (startQ w h x y m)
theorem okQ_start {w h x y : Int} (m : Nat) (hq : okQ (w, h, x, y)) : okQ (startQ w h x y m) := by
  unfold okQ startQ at *
  simp only at hq ⊢
  split <;> omega
/-- The number of the place where a motion carries place i of a grid. -/
def pos (n h m i : Nat) : Nat := ((carry n h ((i % n : Nat) : Int) ((i / n : Nat) : Int) m).2.2.2 * n + (carry n h ((i % n : Nat) : Int) ((i / n : Nat) : Int) m).2.2.1).toNat
def goesM (n h m : Nat) : Bool := m % 2 == 0 || n == h
def posOk (n h m : Nat) : Bool := !goesM n h m || ((List.range (n * h)).map (pos n h m)).Nodup && (List.range (n * h)).all fun i => decide (pos n h m i < n * h)
theorem posOk_all : ((List.range 7).all fun n => (List.range 7).all fun h => (List.range 8).all fun m => n == 0 || h == 0 || posOk n h m) = true := by decide +kernel
theorem pos_ok {n h m : Nat} (hn : 1 ≤ n ∧ n ≤ 6) (hh : 1 ≤ h ∧ h ≤ 6) (hm : m < 8) (hg : goesM n h m = true) :
    (∀ i, i < n * h → pos n h m i < n * h) ∧ ∀ i j, i < n * h → j < n * h → pos n h m i = pos n h m j → i = j := by
  have h0 := posOk_all
  simp only [List.all_eq_true, List.mem_range, Bool.or_eq_true, beq_iff_eq] at h0
  have h1 := h0 n (by omega) h (by omega) m hm
  have h2 : posOk n h m = true := by
    rcases h1 with (h1 | h1) | h1
    · omega
    · omega
    · exact h1
  unfold posOk at h2
  rw [hg] at h2
  simp only [Bool.not_true, Bool.false_or, Bool.and_eq_true, decide_eq_true_eq, List.all_eq_true, List.mem_range] at h2
  refine ⟨h2.2, fun i j hi hj e => ?_⟩
  have hp := List.pairwise_iff_getElem.1 h2.1
  rcases Nat.lt_trichotomy i j with hij | hij | hij
  · exact absurd e (by have := hp i j (by simpa using hi) (by simpa using hj) hij; simpa using this)
  · exact hij
  · exact absurd e.symm (by have := hp j i (by simpa using hj) (by simpa using hi) hij; simpa using this)
/-- The mask that a motion makes of the places below k. -/
def turnTo (n h m mask : Nat) : Nat → Nat
  | 0 => 0
  | k + 1 => turnTo n h m mask k + (if mask.testBit k then 2 ^ pos n h m k else 0)
theorem turn_bits {n h m mask : Nat} (hp : ∀ i j, i < n * h → j < n * h → pos n h m i = pos n h m j → i = j) (hl : ∀ i, i < n * h → pos n h m i < n * h) (h36 : n * h ≤ 36) :
    ∀ k, k ≤ n * h → turnTo n h m mask k < 2 ^ (n * h) ∧ ∀ j, (turnTo n h m mask k).testBit j = true → ∃ i, i < k ∧ mask.testBit i = true ∧ pos n h m i = j
  | 0, _ => ⟨by simp [turnTo]; exact Nat.pow_pos (by decide), fun j hj => by simp [turnTo] at hj⟩
  | k + 1, hk => by
    obtain ⟨h1, h2⟩ := turn_bits hp hl h36 k (by omega)
    have h62 : (2 : Nat) ^ (n * h) ≤ 2 ^ 36 := Nat.pow_le_pow_right (by decide) h36
    by_cases hb : mask.testBit k = true
    · have hk2 := hl k (by omega)
      have hnb : (turnTo n h m mask k).testBit (pos n h m k) = false := by
        cases e : (turnTo n h m mask k).testBit (pos n h m k) with
        | false => rfl
        | true =>
          obtain ⟨i, hi, _, hpi⟩ := h2 _ e
          have := hp i k (by omega) (by omega) hpi
          omega
      have e : turnTo n h m mask (k + 1) = turnTo n h m mask k ||| 2 ^ pos n h m k := by
        show turnTo n h m mask k + _ = _
        rw [if_pos hb, or_bit (by omega) (by omega) hnb]
      rw [e]
      refine ⟨Nat.or_lt_two_pow h1 (Nat.pow_lt_pow_right (by decide) hk2), fun j hj => ?_⟩
      rw [Nat.testBit_or, Bool.or_eq_true, Nat.testBit_two_pow] at hj
      rcases hj with hj | hj
      · obtain ⟨i, hi, h3⟩ := h2 j hj
        exact ⟨i, by omega, h3⟩
      · exact ⟨k, by omega, hb, by simpa using hj⟩
    · have e : turnTo n h m mask (k + 1) = turnTo n h m mask k := by
        show turnTo n h m mask k + _ = _
        rw [if_neg hb, Nat.add_zero]
      rw [e]
      refine ⟨h1, fun j hj => ?_⟩
      obtain ⟨i, hi, h3⟩ := h2 j hj
      exact ⟨i, by omega, h3⟩
theorem turn_or {n h m mask : Nat} (hp : ∀ i j, i < n * h → j < n * h → pos n h m i = pos n h m j → i = j) (hl : ∀ i, i < n * h → pos n h m i < n * h) (h36 : n * h ≤ 36) {k : Nat} (hk : k < n * h) (hb : mask.testBit k = true) :
    turnTo n h m mask (k + 1) = turnTo n h m mask k ||| 2 ^ pos n h m k := by
  obtain ⟨h1, h2⟩ := turn_bits hp hl h36 k (mask := mask) (by omega)
  have h62 : (2 : Nat) ^ (n * h) ≤ 2 ^ 36 := Nat.pow_le_pow_right (by decide) h36
  have hk2 := hl k hk
  have hnb : (turnTo n h m mask k).testBit (pos n h m k) = false := by
    cases e : (turnTo n h m mask k).testBit (pos n h m k) with
    | false => rfl
    | true =>
      obtain ⟨i, hi, _, hpi⟩ := h2 _ e
      have := hp i k (by omega) (by omega) hpi
      omega
  show turnTo n h m mask k + _ = _
  rw [if_pos hb, or_bit (by omega) (by omega) hnb]
end Go.Proofs.Ytglilkneipfheaa

/- The reference's draws: numbers below a bound, out of bytes. -/
namespace Go.Proofs.Ytglilkneipfheaa
open Go.RowKit
set_option linter.unusedVariables false
attribute [local go_sem ↓] Go.wp_at_zero Go.wp_at_succ
/-- A cursor over bytes. -/
structure Cur (w : World) (g : Nat) (A : Option Addr) (n c : Nat) (bs : List UInt8) : Prop where
  blk : ∃ (i : Nat) (h : Int), i ≤ n ∧ Blk w g 80 #[.slice A n c, .int .i64 (i : Int), .int .i64 h]
  rd : Rd w A (vB bs)
  len : bs.length = n
  ne : 0 < n → ob A ≠ some g
theorem Cur.below {w w' : World} {g : Nat} {A : Option Addr} {n c : Nat} {bs : List UInt8} (h : Cur w g A n c bs) (hb : Below w.heap.size w w') : Cur w' g A n c bs := by
  obtain ⟨i, x, hi, hB⟩ := h.blk
  exact ⟨⟨i, x, hi, hB.below hb⟩, h.rd.below hb, h.len, h.ne⟩
theorem and255 (x : Int) : ∃ q : Nat, bits .and .i64 x 255 = (q : Int) ∧ q < 256 := by
  refine ⟨(BitVec.ofInt 64 x &&& BitVec.ofInt 64 255).toNat, ?_, ?_⟩
  · show IntKind.i64.wrap ((BitVec.ofInt 64 x &&& BitVec.ofInt 64 255).toNat : Int) = _
    have hlt : (BitVec.ofInt 64 x &&& BitVec.ofInt 64 255).toNat ≤ 255 := by
      rw [BitVec.toNat_and]
      exact Nat.le_trans Nat.and_le_right (by decide)
    exact Go.IntWalk.i64_in _ (by omega)
  · have hlt : (BitVec.ofInt 64 x &&& BitVec.ofInt 64 255).toNat ≤ 255 := by
      rw [BitVec.toNat_and]
      exact Nat.le_trans Nat.and_le_right (by decide)
    omega
theorem RdB.at_ {w : World} {A : Option Addr} {xs : List UInt8} (h : Rd w A (vB xs)) {k : Nat} (hk : k < xs.length) : ∃ g off, A = some ⟨g, off, none⟩ ∧ g < w.heap.size ∧ w.cell? ⟨g, off + k, none⟩ = some (.int .u8 (xs[k].toNat : Nat)) := by
  rcases h with h | ⟨g, off, rfl, h⟩
  · have h2 := congrArg List.length h
    simp [vB] at h2
    subst h2
    simp at hk
  · have h2 := h k (.int .u8 (xs[k].toNat : Nat)) (by simp [vB, List.getElem?_eq_getElem hk])
    exact ⟨g, off, rfl, World.block_lt_of_cell? w _ h2, h2⟩
theorem Cur.set_ {w : World} {g : Nat} {A : Option Addr} {n c : Nat} {bs : List UInt8} (h : Cur w g A n c bs) {cs : Array Value} {k : Nat} {u : Value} (hB : Blk w g 80 cs) (hk : ∃ (i : Nat) (h : Int), i ≤ n ∧ cs.setIfInBounds k u = #[.slice A n c, .int .i64 (i : Int), .int .i64 h]) : Cur (w.setCell ⟨g, k, none⟩ u) g A n c bs := by
  obtain ⟨i, x, hi, hx⟩ := hk
  refine ⟨⟨i, x, hi, hx ▸ hB.set_ k u⟩, ?_, h.len, h.ne⟩
  by_cases h0 : 0 < n
  · rcases h.rd with h1 | ⟨g', off, rfl, h1⟩
    · exact .inl h1
    · refine .inr ⟨g', off, rfl, fun j v hv => (World.cell?_setCell_other w _ _ u (fun e => h.ne h0 ?_)).trans (h1 j v hv)⟩
      simp only [Addr.mk.injEq] at e
      simp [ob, e.1]
  · left
    have := h.len
    rw [List.eq_nil_of_length_eq_zero (by omega : bs.length = 0)]
    rfl
/-- A number below a bound was drawn. -/
def RetDraw (w : World) (g : Nat) (A : Option Addr) (n c : Nat) (bs : List UInt8) (m : Nat) (e : Ending) (w' : World) : Prop :=
  ∃ q : Nat, e = .returned (.int .i64 (q : Int)) ∧ q < m ∧ Cur w' g A n c bs ∧ w.grownBy w' (some g)
def RetCur (w : World) (A : Option Addr) (n c : Nat) (bs : List UInt8) (e : Ending) (w' : World) : Prop :=
  ∃ g, e = .returned (.pointer (some ⟨g, 0, none⟩)) ∧ Cur w' g A n c bs ∧ w.heap.size ≤ g ∧ Below w.heap.size w w'
set_option maxHeartbeats 800000 in
theorem l1New_s (A : Option Addr) (n c : Nat) (bs : List UInt8) (w : World) (hr : Rd w A (vB bs)) (hl : bs.length = n) (hn : n ≤ 1048576) :
    Calls Try.prog 60 #[.slice A n c] w (RetCur w A n c bs) := by
  have HR := Lib.hid hr
  have HL := Lib.hid hl
  clear hr hl
  go_enter Try.func60, Try.ntmps60
  go_wp2_with fail
  go_loopw [4, 3] (fun e4 e3 wr => ∃ (i : Nat) (h : Int), i ≤ n ∧ e4 = .int .i64 i ∧ e3 = .int .i64 h ∧ Below w.heap.size w wr) (fun e4 _ _ => n - (intOf e4).toNat)
  case atStart => exact ⟨0, _, Nat.zero_le _, rfl, rfl, Below.refl _ _⟩
  case round =>
    obtain ⟨i, h, hi, rfl, rfl, hb⟩ := hrel
    have HB := Lib.hid hb
    clear hb
    by_cases hlt : i < n
    · have hi0 : (0 : Int) ≤ (i : Int) := by omega
      have hi1 : (i : Int) < (n : Int) := by omega
      by_cases h4 : i < 4000
      · have h41 : (i : Int) < 4000 := by omega
        have hil : i < bs.length := by rw [HL.out]; exact hlt
        obtain ⟨g, off, hA, hg, d1⟩ := RdB.at_ (HR.out.below HB.out) hil
        obtain ⟨b, hb⟩ : ∃ b, bs[i] = b := ⟨_, rfl⟩
        rw [hb] at d1
        have ebb : IntKind.i64.wrap (b.toNat : Int) = (b.toNat : Int) := Go.IntWalk.i64_in _ (by have := b.toNat_lt; omega)
        obtain ⟨a1, ha1⟩ : ∃ a1, IntKind.i64.wrap (h * 131) = a1 := ⟨_, rfl⟩
        obtain ⟨a2, ha2⟩ : ∃ a2, IntKind.i64.wrap (a1 + (b.toNat : Int)) = a2 := ⟨_, rfl⟩
        obtain ⟨a3, ha3⟩ : ∃ a3, IntKind.i64.wrap (a2 + 7) = a3 := ⟨_, rfl⟩
        obtain ⟨a4, ha4⟩ : ∃ a4, bits .and .i64 a3 1073741823 = a4 := ⟨_, rfl⟩
        subst hA
        clear hb
        go_wp2_with fail
        exact ⟨⟨i + 1, a4, by omega, by go_num, rfl, HB.out⟩, by simp [intOf]; omega⟩
      · have h41 : ¬ (i : Int) < 4000 := by omega
        go_wp2_with fail
        go_ret
        have hA : 0 < n → ob A ≠ some wr.heap.size := fun _ e => by
          obtain ⟨g, off, hA, hg, d1⟩ := RdB.at_ (HR.out.below HB.out) (show 0 < bs.length by rw [HL.out]; omega)
          subst hA
          simp only [ob, Option.map_some, Option.some.injEq] at e
          omega
        exact ⟨_, rfl, ⟨⟨0, h, Nat.zero_le _, Blk.new _ _ _⟩, (HR.out.below HB.out).alloc _, HL.out, hA⟩, HB.out.size, bel_alloc HB.out _⟩
    · obtain rfl : i = n := by omega
      have hi1 : ¬ (i : Int) < (i : Int) := by omega
      go_wp2_with fail
      go_ret
      have hA : 0 < i → ob A ≠ some wr.heap.size := fun h0 e => by
        obtain ⟨g, off, hA, hg, d1⟩ := RdB.at_ (HR.out.below HB.out) (show 0 < bs.length by rw [HL.out]; omega)
        subst hA
        simp only [ob, Option.map_some, Option.some.injEq] at e
        omega
      exact ⟨_, rfl, ⟨⟨0, h, Nat.zero_le _, Blk.new _ _ _⟩, (HR.out.below HB.out).alloc _, HL.out, hA⟩, HB.out.size, bel_alloc HB.out _⟩
set_option maxHeartbeats 800000 in
theorem l1Byte_s (A : Option Addr) (n c g : Nat) (bs : List UInt8) (w : World) (hc : Cur w g A n c bs) (hn : n ≤ 1048576) :
    Calls Try.prog 101 #[.pointer (some ⟨g, 0, none⟩)] w (RetDraw w g A n c bs 256) := by
  obtain ⟨i, h, hi, hB⟩ := hc.blk
  have c0 : w.cell? ⟨g, 0, none⟩ = some (.slice A n c) := by simpa using hB.cell 0
  have c1 : w.cell? ⟨g, 1, none⟩ = some (.int .i64 (i : Int)) := by simpa using hB.cell 1
  have c2 : w.cell? ⟨g, 2, none⟩ = some (.int .i64 h) := by simpa using hB.cell 2
  have f2 := hB.frozen 2
  have hg := hB.lt
  obtain ⟨a1, ha1⟩ : ∃ a1, IntKind.i64.wrap (h * 6364136223846793005) = a1 := ⟨_, rfl⟩
  obtain ⟨a2, ha2⟩ : ∃ a2, IntKind.i64.wrap (a1 + 1442695040888963407) = a2 := ⟨_, rfl⟩
  go_enter Try.func101, Try.ntmps101
  go_wp2_with fail
  have hB1 := hB.set_ 2 (.int .i64 a2)
  have hC1 := hc.set_ (k := 2) (u := .int .i64 a2) hB ⟨i, a2, hi, rfl⟩
  have hG1 : w.grownBy (w.setCell ⟨g, 2, none⟩ (.int .i64 a2)) (some g) := grown_set (p := ⟨g, 2, none⟩) (World.grownBy.refl _ _) rfl _
  obtain ⟨w1, hw1⟩ : ∃ w1, w.setCell ⟨g, 2, none⟩ (.int .i64 a2) = w1 := ⟨_, rfl⟩
  rw [hw1] at hB1 hC1 hG1 ⊢
  have HG1 := Lib.hid hG1
  have HC1 := Lib.hid hC1
  have HB1 := Lib.hid hB1
  have d0 : w1.cell? ⟨g, 0, none⟩ = some (.slice A n c) := by simpa using hB1.cell 0
  have d1 : w1.cell? ⟨g, 1, none⟩ = some (.int .i64 (i : Int)) := by simpa using hB1.cell 1
  have d2 : w1.cell? ⟨g, 2, none⟩ = some (.int .i64 a2) := by simpa using hB1.cell 2
  have l1 := hB1.lt
  have HI := Lib.hid hi
  clear hw1 c0 c1 c2 f2 hg hB hc hC1 hG1 hB1 ha1 ha2 hi
  (refine wp_region_below (by kernel_rfl) (by kernel_rfl) ?_; (repeat (first | go_big_quiet_skip | (refine quietV (v := ?_) (by rfl) rfl (fun w' hbw => ?_) ?_; rotate_left; ((try dsimp only at hbw); have hbc := (bcell hbw).1; have hbf := (bcell hbw).2; go_simp; first | done | with_reducible rfl | fail); simp only [List.setIfInBounds_toArray, List.set_cons_zero, List.set_cons_succ]))); refine wpQuiet_nil ?_; intro wq hbq)
  obtain ⟨q1, hq1, hlt1⟩ := and255 (bits BinOp.xor IntKind.i64 (a2 / 8589934592) (a2 / 35184372088832))
  have d0 := keep_below hbq d0
  have d1 := keep_below hbq d1
  have d2 := keep_below hbq d2
  have l1 : g < wq.heap.size := Nat.lt_of_lt_of_le l1 hbq.size
  have HBQ := Lib.hid hbq
  rw [hq1]
  clear hq1 hbq
  go_wp2_with fail
  (refine wp_region_below (by kernel_rfl) (by kernel_rfl) ?_; (repeat (first | go_big_quiet_skip | (refine quietV (v := ?_) (by rfl) rfl (fun w' hbw => ?_) ?_; rotate_left; ((try dsimp only at hbw); have hbc := (bcell hbw).1; have hbf := (bcell hbw).2; go_simp; first | done | with_reducible rfl | fail); simp only [List.setIfInBounds_toArray, List.set_cons_zero, List.set_cons_succ]))); refine wpQuiet_nil ?_; intro wp hbp)
  have d0 := keep_below hbp d0
  have d1 := keep_below hbp d1
  have l1 : g < wp.heap.size := Nat.lt_of_lt_of_le l1 hbp.size
  have HBP := Lib.hid (bel_trans HBQ.out hbp)
  clear hbp HBQ d2
  have hgr : ∀ w2 : World, Below w1.heap.size w1 w2 → w.grownBy w2 (some g) := fun w2 h => ⟨h.os.trans HG1.out.os, h.tape.trans HG1.out.tape, h.output.trans HG1.out.output, Nat.le_trans HG1.out.size h.size, fun k hk hn => (h.block k (Nat.lt_of_lt_of_le hk HG1.out.size)).trans (HG1.out.block k hk hn)⟩
  have HGR := Lib.hid @hgr
  clear hgr
  by_cases hlt : i < n
  · have hi1 : (i : Int) < (n : Int) := by omega
    have hi0 : (0 : Int) ≤ (i : Int) := by omega
    have hil : i < bs.length := by rw [HC1.out.len]; exact hlt
    obtain ⟨gb, off, hA, hgb, e1⟩ := RdB.at_ (HC1.out.rd.below HBP.out) hil
    obtain ⟨b, hb⟩ : ∃ b, bs[i] = b := ⟨_, rfl⟩
    rw [hb] at e1
    have hbl := b.toNat_lt
    have ebb : IntKind.i64.wrap (b.toNat : Int) = (b.toNat : Int) := Go.IntWalk.i64_in _ (by omega)
    have eq1 : IntKind.i64.wrap ((q1 : Int) + (b.toNat : Int)) = (q1 : Int) + (b.toNat : Int) := Go.IntWalk.i64_in _ (by omega)
    obtain ⟨q2, hq2, hlt2⟩ := and255 ((q1 : Int) + (b.toNat : Int))
    subst hA
    have HBB := Lib.hid hbl
    clear hb hbl
    go_wp2_with fail
    (refine wp_region_below (by kernel_rfl) (by kernel_rfl) ?_; (repeat (first | go_big_quiet_skip | (refine quietV (v := ?_) (by rfl) rfl (fun w' hbw => ?_) ?_; rotate_left; ((try dsimp only at hbw); have hbc := (bcell hbw).1; have hbf := (bcell hbw).2; go_simp; first | done | with_reducible rfl | fail); simp only [List.setIfInBounds_toArray, List.set_cons_zero, List.set_cons_succ]))); refine wpQuiet_nil ?_; intro wr hbr)
    have HBR := Lib.hid (bel_trans HBP.out hbr)
    have d0 := keep_below hbr d0
    have d1 := keep_below hbr d1
    have l1 : g < wr.heap.size := Nat.lt_of_lt_of_le l1 hbr.size
    have hBr := HB1.out.below HBR.out
    have f1 := hBr.frozen 1
    have ei : IntKind.i64.wrap ((i : Int) + 1) = ((i + 1 : Nat) : Int) := by rw [Go.IntWalk.i64_in _ (by have := HC1.out.len; omega)]; omega
    clear eq1 ebb e1 hbr hgb d0 hq2
    go_wp2_with fail
    go_ret
    exact ⟨q2, rfl, hlt2, (HC1.out.below HBR.out).set_ (k := 1) (u := .int .i64 ((i + 1 : Nat) : Int)) hBr ⟨i + 1, a2, by omega, rfl⟩, grown_set (p := ⟨g, 1, none⟩) (HGR.out _ HBR.out) rfl _⟩
  · have hi1 : ¬ (i : Int) < (n : Int) := by omega
    go_wp2_with fail
    go_ret
    exact ⟨q1, rfl, hlt1, HC1.out.below HBP.out, HGR.out _ HBP.out⟩
set_option maxHeartbeats 800000 in
theorem l1Below_s (A : Option Addr) (n c g k : Nat) (bs : List UInt8) (w : World) (hc : Cur w g A n c bs) (hn : n ≤ 1048576) (hk1 : 1 ≤ k) (hk : k ≤ 256) :
    Calls Try.prog 62 #[.pointer (some ⟨g, 0, none⟩), .int .i64 (k : Int)] w (RetDraw w g A n c bs k) := by
  have h0 : ¬ (k : Int) ≤ 0 := by omega
  have h2 : (k : Int) ≤ 256 := by omega
  have HC := Lib.hid hc
  clear hc
  go_enter Try.func62, Try.ntmps62
  go_wp2_with fail
  refine (l1Byte_s A n c g bs w HC.out hn).mono ?_
  rintro e w1 ⟨q, rfl, hq, hc1, hg1⟩
  have HC1 := Lib.hid hc1
  have HG1 := Lib.hid hg1
  obtain ⟨r, hr⟩ : ∃ r, q % k = r := ⟨_, rfl⟩
  have hrl : r < k := by rw [← hr]; exact Nat.mod_lt _ (by omega)
  have hrm : (q : Int) % (k : Int) = (r : Int) := by rw [← hr]; simp
  have hrm2 : (q : Int).tmod (k : Int) = (r : Int) := by rw [← hr]; simp [Int.tmod]
  have hkz : ((k : Int) == 0) = false := by simp; omega
  have er : IntKind.i64.wrap (r : Int) = (r : Int) := Go.IntWalk.i64_in _ (by omega)
  clear hc1 hg1 hr
  go_wp2_with fail
  go_ret
  exact ⟨r, rfl, hrl, HC1.out, HG1.out⟩
end Go.Proofs.Ytglilkneipfheaa

/- What the laws on drawn values share: bytes opened, sizes, lists compared. -/
namespace Go.Proofs.Ytglilkneipfheaa
open Go.ChangeShapes Go.WideShapes Go.ChangeAt Go.RowKit
set_option linter.unusedVariables false
attribute [local go_sem ↓] Go.wp_at_zero Go.wp_at_succ
section
variable {H : Type} {enc : TypeId × Value → H}
theorem cellsB : Try.prog.cellsOf 5 = 1 := by kernel_rfl
set_option maxRecDepth 100000 in
theorem openB {W : World} {r : Reach} {b0 : Nat} {t : TypeId} (ht : Try.prog.underlying t = some (.slice 5)) {base : Nat} {spare : Nat → Bool} {held : Bool} {v : Value} {d : DataW H} {p : List MemPlace} (hv : Value.okWide Try.prog W r b0 t v) (h : DataW.Trod enc Try.prog W base spare held t v d p) :
    ∃ A n c xs, v = .slice A n c ∧ Rd W A (vB xs) ∧ xs.length = n ∧ n ≤ maxLen := by
  obtain ⟨a0, len, cap, rfl⟩ := okWide_slice ht hv
  obtain ⟨fuel, hf⟩ := h
  rcases open_ints ht Try.underlying5 cellsB hf with ⟨hcs, hx⟩ | ⟨a, len', cap', zs, hcs, _, hl, hm, hz, hx, hcell, hwz⟩
  · simp [Value.cells] at hcs
    obtain ⟨rfl, rfl, rfl⟩ := hcs
    exact ⟨none, 0, 0, [], rfl, .inl rfl, rfl, Nat.zero_le _⟩
  · simp [Value.cells] at hcs
    obtain ⟨rfl, rfl, rfl⟩ := hcs
    have hzl : len ≤ zs.length := by rw [hz]; split <;> omega
    have hrng : ∀ z ∈ zs, 0 ≤ z ∧ z < 256 := fun z hz2 => by
      have := hwz z hz2
      simp [Lit.wf, IntKind.min, IntKind.max, IntKind.bits, IntKind.signed] at this
      omega
    refine ⟨_, _, _, (zs.take len).map (fun z => UInt8.ofNat z.toNat), rfl, ?_, by rw [List.length_map, List.length_take]; omega, by omega⟩
    by_cases h0 : 0 < zs.length
    · obtain ⟨ab, ao, spot⟩ := a
      have hspot : spot = none := by simpa [Addr.add] using World.cell?_spot (hcell 0 h0)
      subst hspot
      refine .inr ⟨ab, ao, rfl, fun j u hu => ?_⟩
      simp only [vB, List.getElem?_map, Option.map_eq_some_iff] at hu
      obtain ⟨x, ⟨z, hz1, rfl⟩, rfl⟩ := hu
      have hjl : j < len := by
        rcases Nat.lt_or_ge j len with h | h
        · exact h
        · rw [List.getElem?_eq_none (by rw [List.length_take]; omega)] at hz1; cases hz1
      rw [List.getElem?_take_of_lt hjl] at hz1
      have h3 := hcell j (by omega)
      have h4 := hrng z (List.mem_of_getElem? hz1)
      rw [show (⟨ab, ao + j, none⟩ : Addr) = (⟨ab, ao, none⟩ : Addr).add j from by simp [Addr.add], h3, List.getD_eq_getElem?_getD, hz1]
      have e : ((UInt8.ofNat z.toNat).toNat : Int) = z := by
        rw [UInt8.toNat_ofNat_of_lt' (by show z.toNat < 256; omega)]
        omega
      rw [e]
      rfl
    · left
      rw [List.eq_nil_of_length_eq_zero (by omega : zs.length = 0)]
      simp [vB]
end
theorem big_l (A : Option Addr) (n c : Nat) (w : World) : Calls Try.prog 6 #[.slice A n c] w (Ret w (.bool (decide ((n : Int) > 1048576)))) := by
  go_enter Try.func6, Try.ntmps6
  go_wp2_with fail
  go_ret
  exact ⟨rfl, Below.refl _ _⟩
set_option maxHeartbeats 800000 in
theorem sameInts_t (A A2 : Option Addr) (n c n2 c2 : Nat) (xs : List Int) (w : World) (h : Rd w A (vI xs)) (h2 : Rd w A2 (vI xs)) (hl : xs.length = n) (hl2 : xs.length = n2) (hn : n ≤ 1099511627776) :
    Calls Try.prog 10 #[.slice A n c, .slice A2 n2 c2] w (Ret w (.bool true)) := by
  obtain rfl : n = n2 := hl.symm.trans hl2
  have HL := Lib.hid hl
  have H1 := Lib.hid h
  have H2 := Lib.hid h2
  have hne : ((n : Int) != (n : Int)) = false := by simp
  clear hl hl2 h h2
  go_enter Try.func10, Try.ntmps10
  go_wp2_with fail
  go_loopw [5] (fun e5 wr => ∃ j : Nat, j ≤ n ∧ e5 = .int .i64 j ∧ Below w.heap.size w wr) (fun e5 _ => n - (intOf e5).toNat)
  case atStart => exact ⟨0, Nat.zero_le _, rfl, Below.refl _ _⟩
  case round =>
    obtain ⟨j, hj, rfl, hb⟩ := hrel
    by_cases hlt : j < n
    · have hj0 : (0 : Int) ≤ (j : Int) := by omega
      have hj1 : (j : Int) < (n : Int) := by omega
      have hjl : j < xs.length := by rw [HL.out]; exact hlt
      obtain ⟨g, off, hA, hg, d1⟩ := RdI.at_ (H1.out.below hb) hjl
      obtain ⟨g2, off2, hA2, hg2, d2⟩ := RdI.at_ (H2.out.below hb) hjl
      obtain ⟨v, hv⟩ : ∃ v, xs[j] = v := ⟨_, rfl⟩
      rw [hv] at d1 d2
      have hvv : (v != v) = false := by simp
      subst hA hA2
      clear hv
      go_wp2_with fail
      (refine wp_region_below (by kernel_rfl) (by kernel_rfl) ?_; (repeat (first | go_big_quiet_skip | (refine quietV (v := ?_) (by rfl) rfl (fun w' hbw => ?_) ?_; rotate_left; ((try dsimp only at hbw); have hbc := (bcell hbw).1; have hbf := (bcell hbw).2; go_simp; first | done | with_reducible rfl | fail); simp only [List.setIfInBounds_toArray, List.set_cons_zero, List.set_cons_succ]))); refine wpQuiet_nil ?_; intro wq hbq)
      go_wp2_with fail
      exact ⟨⟨j + 1, by omega, by go_num, bel_trans hb hbq⟩, by simp [intOf]; omega⟩
    · have hj1 : ¬ (j : Int) < (n : Int) := by omega
      go_wp2_with fail
      go_ret
      exact ⟨rfl, hb⟩
end Go.Proofs.Ytglilkneipfheaa

/- Floods of a grid around a shape: plain functions. No program is in sight. -/
namespace Go.Proofs.Ytglilkneipfheaa
open Go.RowKit
set_option linter.unusedVariables false
/-- The number of a place of the grid; is it in the grid? -/
def gp (c : C) : Nat := (c.2 * 10 + c.1).toNat
def inG (c : C) : Bool := (decide (0 ≤ c.1) && decide (c.1 ≤ 9)) && (decide (0 ≤ c.2) && decide (c.2 ≤ 9))
theorem inG_at {c : C} (h : inG c = true) : ∃ p q : Nat, c = ((p : Int), (q : Int)) ∧ p ≤ 9 ∧ q ≤ 9 ∧ gp c = q * 10 + p ∧ q * 10 + p < 100 := by
  simp only [inG, Bool.and_eq_true, decide_eq_true_eq] at h
  obtain ⟨⟨h1, h2⟩, h3, h4⟩ := h
  obtain ⟨p, hp⟩ := Int.eq_ofNat_of_zero_le h1
  obtain ⟨q, hq⟩ := Int.eq_ofNat_of_zero_le h3
  refine ⟨p, q, Prod.ext hp hq, by omega, by omega, ?_, by omega⟩
  unfold gp
  omega
/-- The cells of a shape in the grid, one place off the edge. -/
def cellsG (s : List C) : Nat → Nat
  | 0 => 0
  | k + 1 => cellsG s k ||| 2 ^ gp ((s.getD k (0, 0)).1 + 1, (s.getD k (0, 0)).2 + 1)
/-- A flood: what is marked, the queue. -/
abbrev FS := Nat × List C
def sideG (st : FS) (d : C) : FS := if inG d && !st.1.testBit (gp d) then (st.1 ||| 2 ^ gp d, st.2 ++ [d]) else st
def sidesG (st : FS) (c : C) : Nat → FS
  | 0 => st
  | k + 1 => sideG (sidesG st c k) ((sidesV c).getD k (0, 0))
def popG (st : FS) : FS := match st.2 with
  | [] => st
  | c :: t => sidesG (st.1, t) c 4
def flood (st : FS) : Nat → FS
  | 0 => st
  | k + 1 => popG (flood st k)
/-- How many places are not marked. -/
def un (m : Nat) : Nat := (List.range 100).countP fun i => !m.testBit i
theorem cnt_one (q : Nat → Bool) (p : Nat) (hq : q p = true) : ∀ n, (p < n → (List.range n).countP (fun i => q i && i != p) + 1 = (List.range n).countP q) ∧ (n ≤ p → (List.range n).countP (fun i => q i && i != p) = (List.range n).countP q)
  | 0 => ⟨fun h => by omega, fun _ => rfl⟩
  | n + 1 => by
    obtain ⟨h1, h2⟩ := cnt_one q p hq n
    simp only [List.range_succ, List.countP_append, List.countP_singleton]
    refine ⟨fun h => ?_, fun h => ?_⟩
    · by_cases e : n = p
      · subst e
        rw [h2 (Nat.le_refl _)]
        simp [hq]
      · have h3 := h1 (by omega)
        have e2 : (n != p) = true := by simpa using e
        rw [e2, Bool.and_true]
        omega
    · have e2 : (n != p) = true := by simp; omega
      rw [h2 (by omega), e2, Bool.and_true]
theorem un_set {m p : Nat} (hp : p < 100) (h : m.testBit p = false) : un (m ||| 2 ^ p) + 1 = un m := by
  have e : (fun i => !(m ||| 2 ^ p).testBit i) = fun i => (!m.testBit i) && i != p := by
    funext i
    rw [Nat.testBit_or, Nat.testBit_two_pow]
    by_cases e : p = i
    · subst e; simp
    · have e2 : (i != p) = true := by simp; omega
      simp [e, e2]
  unfold un
  rw [e]
  exact (cnt_one (fun i => !m.testBit i) p (by simp [h]) 100).1 hp
theorem sideG_un (st : FS) (d : C) : 2 * un (sideG st d).1 + (sideG st d).2.length ≤ 2 * un st.1 + st.2.length := by
  unfold sideG
  split
  · next h =>
    simp only [Bool.and_eq_true, Bool.not_eq_true'] at h
    obtain ⟨p, q, _, _, _, e, hl⟩ := inG_at h.1
    have := un_set (m := st.1) (p := gp d) (by omega) h.2
    simp only [List.length_append, List.length_singleton]
    omega
  · exact Nat.le_refl _
theorem sidesG_un (st : FS) (c : C) : ∀ k, 2 * un (sidesG st c k).1 + (sidesG st c k).2.length ≤ 2 * un st.1 + st.2.length
  | 0 => Nat.le_refl _
  | k + 1 => Nat.le_trans (sideG_un _ _) (sidesG_un st c k)
theorem un_le (m : Nat) : un m ≤ 100 := by
  have h := List.countP_le_length (p := fun i => !m.testBit i) (l := List.range 100)
  simpa [un] using h
/-- The queue's places lie in the grid. -/
def QG (l : List C) : Prop := ∀ c ∈ l, inG c = true
theorem sideG_q {st : FS} (h : QG st.2) (d : C) : QG (sideG st d).2 := by
  unfold sideG
  split
  · next hd =>
    simp only [Bool.and_eq_true] at hd
    intro c hc
    rcases List.mem_append.1 hc with h1 | h1
    · exact h c h1
    · simp only [List.mem_singleton] at h1; rw [h1]; exact hd.1
  · exact h
theorem sidesG_q {st : FS} (h : QG st.2) (c : C) : ∀ k, QG (sidesG st c k).2
  | 0 => h
  | k + 1 => sideG_q (sidesG_q h c k) _
theorem popG_q {st : FS} (h : QG st.2) : QG (popG st).2 := by
  unfold popG
  split
  · exact h
  · next c t e =>
    refine sidesG_q (fun d hd => ?_) c 4
    exact h d (by rw [e]; exact List.mem_cons_of_mem _ hd)
theorem flood_q {st : FS} (h : QG st.2) : ∀ k, QG (flood st k).2
  | 0 => h
  | k + 1 => popG_q (flood_q h k)
theorem popG_nil {st : FS} (h : st.2 = []) : popG st = st := by unfold popG; rw [h]
theorem flood_stay {st : FS} {k : Nat} (h : (flood st k).2 = []) : ∀ j, flood st (k + j) = flood st k
  | 0 => rfl
  | j + 1 => by
    show popG (flood st (k + j)) = _
    rw [flood_stay h j]
    exact popG_nil h
theorem flood_end {st : FS} {k j : Nat} (h : (flood st k).2 = []) (h2 : (flood st j).2 = []) : flood st j = flood st k := by
  rcases Nat.le_total k j with hl | hl
  · have := flood_stay h (j - k)
    rwa [show k + (j - k) = j by omega] at this
  · have := flood_stay h2 (k - j)
    rw [show j + (k - j) = k by omega] at this
    exact this.symm
theorem flood_pop {st : FS} {k : Nat} {m : Nat} {c : C} {t : List C} (h : flood st k = (m, c :: t)) : flood st (k + 1) = sidesG (m, t) c 4 := by
  show popG (flood st k) = _
  rw [h]; rfl
theorem flood_le (st : FS) : ∀ k, 2 * un (flood st k).1 + (flood st k).2.length ≤ 2 * un st.1 + st.2.length
  | 0 => Nat.le_refl _
  | k + 1 => by
    have ih := flood_le st k
    show 2 * un (popG (flood st k)).1 + (popG (flood st k)).2.length ≤ _
    unfold popG
    split
    · exact ih
    · next c t e =>
      have := sidesG_un ((flood st k).1, t) c 4
      rw [e] at ih
      simp only [List.length_cons] at ih
      simp only at this
      omega
/-- Everything is flooded from the grid's first place. -/
def fullG : Nat := 2 ^ 100 - 1
def FullI (s : List C) : Prop := ∃ K, flood (cellsG s s.length ||| 2 ^ 0, [(0, 0)]) K = (fullG, [])
def frcN {β : Type} (x : Nat) (k : Nat → β) : β := match x with
  | 0 => k 0
  | m + 1 => k (m + 1)
theorem frcN_eq {β : Type} (x : Nat) (k : Nat → β) : frcN x k = k x := by unfold frcN; split <;> rfl
def floodK : Nat → Nat → List C → Bool
  | 0, _, _ => false
  | f + 1, m, [] => m == fullG
  | f + 1, m, c :: t => match sidesG (m, t) c 4 with
    | (m', q') => frcN m' fun m'' => frcS q' fun q'' => floodK f m'' q''
theorem floodK_ok (st : FS) : ∀ (f k : Nat), floodK f (flood st k).1 (flood st k).2 = true → ∃ K, flood st K = (fullG, [])
  | 0, _, h => by simp [floodK] at h
  | f + 1, k, h => by
    rcases hq : flood st k with ⟨m, l⟩
    rw [hq] at h
    cases l with
    | nil =>
      simp only [floodK, beq_iff_eq] at h
      exact ⟨k, by rw [hq, h]⟩
    | cons c t =>
      refine floodK_ok st f (k + 1) ?_
      rw [flood_pop hq]
      simp only [floodK, frcN_eq, frcS_eq] at h
      exact h
def okI (s : List C) : Bool := frcN (cellsG s s.length ||| 2 ^ 0) fun m => floodK 101 m [(0, 0)]
theorem okI_full {s : List C} (h : okI s = true) : FullI s := by
  unfold okI at h
  rw [frcN_eq] at h
  exact floodK_ok (cellsG s s.length ||| 2 ^ 0, [(0, 0)]) 101 0 h
/-- The reference: all places around a shape in its corner that are reached from outside. -/
def outOk (c : List C) (W H : Int) (x : C) : Bool := ((decide (-1 ≤ x.1) && decide (x.1 ≤ W)) && (decide (-1 ≤ x.2) && decide (x.2 ≤ H))) && !hasC c x.1 x.2
def dirS (c : C) (d : Nat) : C := (sidesS c).getD d (0, 0)
def outSt (c : List C) (W H : Int) (L : List C) (i d : Nat) : List C :=
  if i < L.length then (if (outOk c W H (dirS (L.getD i (0, 0)) d) && !hasC L (dirS (L.getD i (0, 0)) d).1 (dirS (L.getD i (0, 0)) d).2) = true then L ++ [dirS (L.getD i (0, 0)) d] else L) else L
def outF (c : List C) (W H : Int) : Nat → List C
  | 0 => [(-1, -1)]
  | t + 1 => outSt c W H (outF c W H t) (t / 4) (t % 4)
def extW (c : List C) : Nat → Int
  | 0 => 0
  | k + 1 => if extW c k < (c.getD k (0, 0)).1 + 1 then (c.getD k (0, 0)).1 + 1 else extW c k
def extH (c : List C) : Nat → Int
  | 0 => 0
  | k + 1 => if extH c k < (c.getD k (0, 0)).2 + 1 then (c.getD k (0, 0)).2 + 1 else extH c k
section
variable (c : List C) (W H : Int)
theorem outF_at (i d : Nat) (hd : d < 4) : outF c W H (4 * i + (d + 1)) = outSt c W H (outF c W H (4 * i + d)) i d := by
  show outSt c W H (outF c W H (4 * i + d)) ((4 * i + d) / 4) ((4 * i + d) % 4) = _
  rw [show (4 * i + d) / 4 = i by omega, show (4 * i + d) % 4 = d by omega]
theorem outF_pre (t : Nat) : ∀ j, ∃ l, outF c W H (t + j) = outF c W H t ++ l
  | 0 => ⟨[], by simp⟩
  | j + 1 => by
    obtain ⟨l, hl⟩ := outF_pre t j
    show ∃ l, outSt c W H (outF c W H (t + j)) _ _ = _
    unfold outSt
    split
    · split
      · rw [hl]; exact ⟨_, List.append_assoc _ _ _⟩
      · exact ⟨l, hl⟩
    · exact ⟨l, hl⟩
theorem outF_len (t : Nat) : (outF c W H t).length ≤ t + 1 := by
  induction t with
  | zero => simp [outF]
  | succ t ih =>
    show (outSt c W H (outF c W H t) _ _).length ≤ _
    unfold outSt
    split
    · split
      · rw [List.length_append, List.length_singleton]; omega
      · omega
    · omega
theorem outF_stay {i : Nat} (h : (outF c W H (4 * i)).length ≤ i) : ∀ j, outF c W H (4 * i + j) = outF c W H (4 * i)
  | 0 => rfl
  | j + 1 => by
    show outSt c W H (outF c W H (4 * i + j)) ((4 * i + j) / 4) _ = _
    rw [outF_stay h j]
    unfold outSt
    rw [if_neg (by omega)]
theorem outF_end {i T : Nat} (h : (outF c W H (4 * i)).length ≤ i) (h2 : (outF c W H (4 * T)).length ≤ T) : outF c W H (4 * i) = outF c W H (4 * T) := by
  rcases Nat.le_total i T with hl | hl
  · have := outF_stay c W H h (4 * (T - i))
    rw [← Nat.mul_add, show i + (T - i) = T by omega] at this
    exact this.symm
  · have := outF_stay c W H h2 (4 * (i - T))
    rw [← Nat.mul_add, show T + (i - T) = i by omega] at this
    exact this
theorem outF_more {i T : Nat} (h : i < (outF c W H (4 * i)).length) (h2 : (outF c W H (4 * T)).length ≤ T) : i < T := by
  rcases Nat.lt_or_ge i T with hl | hl
  · exact hl
  · have := outF_stay c W H h2 (4 * (i - T))
    rw [← Nat.mul_add, show T + (i - T) = i by omega] at this
    rw [this] at h
    omega
def outK : Nat → Nat → List C → Option (List C)
  | 0, _, _ => none
  | f + 1, i, L => if i < L.length then frcS (outSt c W H L i 0) fun a => frcS (outSt c W H a i 1) fun b => frcS (outSt c W H b i 2) fun e => frcS (outSt c W H e i 3) fun g => outK f (i + 1) g else some L
theorem outK_ok : ∀ (f i : Nat) (R : List C), outK c W H f i (outF c W H (4 * i)) = some R → ∃ T, outF c W H (4 * T) = R ∧ R.length ≤ T ∧ T ≤ i + f
  | 0, i, R, h => by simp [outK] at h
  | f + 1, i, R, h => by
    unfold outK at h
    split at h
    · simp only [frcS_eq] at h
      have e0 := outF_at c W H i 0 (by decide)
      have e1 := outF_at c W H i 1 (by decide)
      have e2 := outF_at c W H i 2 (by decide)
      have e3 := outF_at c W H i 3 (by decide)
      simp only [Nat.add_zero] at e0
      rw [← e0, ← e1, ← e2, ← e3] at h
      obtain ⟨T, h1, h2, h3⟩ := outK_ok f (i + 1) R h
      exact ⟨T, h1, h2, by omega⟩
    · next hl =>
      simp only [Option.some.injEq] at h
      exact ⟨i, h, by rw [← h]; omega, by omega⟩
end
/-- Nothing is left that is not reached from outside. -/
structure FullS (s : List C) (T : Nat) (R : List C) : Prop where
  reach : outF (cornS s) (extW (cornS s) s.length) (extH (cornS s) s.length) (4 * T) = R
  len : R.length ≤ T
  all : ∀ x y : Nat, (x : Int) < extW (cornS s) s.length → (y : Int) < extH (cornS s) s.length → hasC (cornS s) x y = false → hasC R x y = true
def okS (s : List C) : Bool := frcS (cornS s) fun c => frcI (extW c s.length) fun W => frcI (extH c s.length) fun H => match outK c W H 101 0 [(-1, -1)] with
  | none => false
  | some R => frcS R fun R => (List.range H.toNat).all fun y => (List.range W.toNat).all fun x => hasC c x y || hasC R x y
theorem okS_full {s : List C} (h : okS s = true) : ∃ T R, FullS s T R ∧ T ≤ 1000 := by
  unfold okS at h
  simp only [frcS_eq, frcI_eq] at h
  split at h
  · cases h
  · next R hR =>
    obtain ⟨T, hT, hl, hb⟩ := outK_ok _ _ _ 101 0 R hR
    refine ⟨T, R, ⟨hT, hl, fun x y hx hy hc => ?_⟩, by omega⟩
    simp only [List.all_eq_true, List.mem_range, Bool.or_eq_true] at h
    rcases h y (by omega) x (by omega) with h1 | h1
    · rw [hc] at h1; cases h1
    · exact h1
theorem okI_fix (k : Nat) (h : k ≤ 4) : ∀ x ∈ fixV k, okI x = true := by
  have hf : ∀ x ∈ fixF k, okI x = true := by
    rcases (by omega : k = 0 ∨ k = 1 ∨ k = 2 ∨ k = 3 ∨ k = 4) with rfl | rfl | rfl | rfl | rfl <;> decide +kernel
  rw [fixF_eq] at hf
  exact hf
theorem okS_fix (k : Nat) (h : k ≤ 4) : ∀ x ∈ fixV k, okS x = true := by
  have hf : ∀ x ∈ fixF k, okS x = true := by
    rcases (by omega : k = 0 ∨ k = 1 ∨ k = 2 ∨ k = 3 ∨ k = 4) with rfl | rfl | rfl | rfl | rfl <;> decide +kernel
  rw [fixF_eq] at hf
  exact hf
end Go.Proofs.Ytglilkneipfheaa

/- A queue: a slice of the call's own that may begin in the middle of its block; taken from at the front, appended to. -/
namespace Go.Proofs.Ytglilkneipfheaa
open Go.RowKit
set_option linter.unusedVariables false
/-- The slice at cell off of block g, n elements long, owns its row. -/
def World.ownsQ (w : World) (base e size g off n c : Nat) (xs : List Value) : Prop :=
  xs.length = n * size ∧ n ≤ c ∧ c ≤ maxLen ∧ base ≤ g ∧ ∃ cur : Array Value, w.heap[g]? = some (.cells cur e (0, 0)) ∧ off + c * size ≤ cur.size ∧ (cur.toList.drop off).take (n * size) = xs
section
variable {w w' : World} {base e size g off n c : Nat} {xs : List Value}
theorem ownQ_of {A : Option Addr} (h : w.ownsRow base e size (.slice A n c) n xs) (hn : 0 < n) : ∃ g, A = some ⟨g, 0, none⟩ ∧ World.ownsQ w base e size g 0 n c xs := by
  rcases h.2 with ⟨_, rfl⟩ | ⟨g, cap, cur, hv, hb, hg, hnc, hcm, hcs, ht⟩
  · omega
  · injection hv with h1 h2 h3
    subst h1 h3
    exact ⟨g, rfl, h.1, hnc, hcm, hb, cur, hg, by rw [hcs]; omega, by simpa using ht⟩
theorem ownQ_keep (h : World.ownsQ w base e size g off n c xs) (hb : Below w.heap.size w w') : World.ownsQ w' base e size g off n c xs := by
  obtain ⟨h1, h2, h3, h4, cur, hg, h5, h6⟩ := h
  exact ⟨h1, h2, h3, h4, cur, (hb.block g (Array.getElem?_eq_some_iff.1 hg).1).trans hg, h5, h6⟩
theorem ownQ_kept {row : Option Nat} (h : World.ownsQ w base e size g off n c xs) (hb : w.grownBy w' row) (hne : some g ≠ row) : World.ownsQ w' base e size g off n c xs := by
  obtain ⟨h1, h2, h3, h4, cur, hg, h5, h6⟩ := h
  exact ⟨h1, h2, h3, h4, cur, (hb.block g (Array.getElem?_eq_some_iff.1 hg).1 hne).trans hg, h5, h6⟩
theorem ownQ_lt (h : World.ownsQ w base e size g off n c xs) : base ≤ g ∧ g < w.heap.size := by
  obtain ⟨h1, h2, h3, h4, cur, hg, h5, h6⟩ := h
  exact ⟨h4, (Array.getElem?_eq_some_iff.1 hg).1⟩
theorem Rd.of_ownQ (h : World.ownsQ w base e size g off n c xs) : Rd w (some ⟨g, off, none⟩) xs := by
  obtain ⟨h1, h2, h3, h4, cur, hg, h5, h6⟩ := h
  refine .inr ⟨g, off, rfl, fun j u hu => ?_⟩
  rw [cell_of_row w g (off + j) cur e (0, 0) hg]
  rw [← h6, List.getElem?_take] at hu
  split at hu
  · rw [List.getElem?_drop] at hu; simpa using hu
  · cases hu
/-- The front is taken away. -/
theorem ownQ_tail (h : World.ownsQ w base e size g off (n + 1) c xs) : World.ownsQ w base e size g (if c = 1 then off else off + size) n (c - 1) (xs.drop size) := by
  obtain ⟨h1, h2, h3, h4, cur, hg, h5, h6⟩ := h
  refine ⟨by rw [List.length_drop, h1, Nat.add_mul]; omega, by omega, by omega, h4, cur, hg, ?_, ?_⟩
  · split
    · next e => subst e; simp at h5 ⊢; omega
    · obtain ⟨k, rfl⟩ : ∃ k, c = k + 1 := ⟨c - 1, by omega⟩
      simp only [Nat.add_sub_cancel, Nat.add_mul, Nat.one_mul] at h5 ⊢
      omega
  · subst h6
    split
    · next e =>
      have : n = 0 := by omega
      subst this
      simp
    · rw [List.drop_take, List.drop_drop, Nat.add_mul, Nat.one_mul, Nat.add_sub_cancel]
theorem run_append_Q {P : Program} (w : World) {base e size g off n c : Nat} {xs : List Value} (t ty : TypeId) (i : TypeInfo) (z : Value) (bytes : Nat) (ht : P.underlying t = some (.slice e)) (hi : P.info? e = some i) (hz : i.zero = some z)
    (hsize : i.size = size) (hby : i.bytes = bytes) (hzs : z.cells.size = size) (hown : World.ownsQ w base e size g off n c xs)
    (a : Addr) (m c2 : Nat) (news : List Value) (hl : news.length = m * size) (hnews : ∀ j u, news[j]? = some u → w.cell? (a.add j) = some u) (h1 : ∀ u ∈ news, u.oneCell' = true)
    (h63 : n + m ≤ maxLen) (hbytes : (n + m) * bytes ≤ 140737488355328) (hbase : base ≤ w.heap.size) :
    ∃ g' off' c' w', (Builtin.append_ #[t, t] ty #[.slice (some ⟨g, off, none⟩) n c, .slice (some a) m c2]).run P w = .ok (.slice (some ⟨g', off', none⟩) (n + m) c') w' ∧ World.ownsQ w' base e size g' off' (n + m) c' (xs ++ news) ∧ w.grownBy w' (some g) ∧ (g' = g ∨ g' = w.heap.size) := by
  subst hsize hby
  have hrd := Rd.of_ownQ hown
  obtain ⟨hx, hnc, hcm, hbg, cur, hg, hfit, htake⟩ := hown
  have hlen : (xs ++ news).length = (n + m) * i.size := by rw [List.length_append, hx, hl, Nat.add_mul]
  by_cases hroom : n + m ≤ c
  · have hfit2 : off + n * i.size + news.length ≤ cur.size := by
      have : (n + m) * i.size ≤ c * i.size := Nat.mul_le_mul_right _ hroom
      rw [Nat.add_mul] at this
      omega
    have hf := run_firstCells_some (P := P) w i.size m a m c2 news hl hnews
    have hst := run_storeCells_at P g (off + n * i.size) e news 0 cur w hg (by simpa using hfit2) h1
    simp only [Nat.add_zero] at hst
    have hadd : (⟨g, off, none⟩ : Addr).add (n * i.size) = ⟨g, off + n * i.size, none⟩ := by unfold Addr.add; split <;> simp_all
    refine ⟨g, off, c, _, by simp [Builtin.append_, run_underlying ht, sizeOf, typeInfo, hi, Builtin.lenOf, hroom, hf, hadd, hst]; rfl, ⟨hlen, hroom, hcm, hbg, _, setRow_heap w g cur _ e _ hg, ?_, ?_⟩, ⟨rfl, rfl, rfl, by simp, fun k hk hne => setRow_other w g k _ (fun e => hne (by rw [e]))⟩, .inl rfl⟩
    · simp only [List.size_toArray, List.length_append, List.length_take, List.length_drop, Array.length_toList]
      omega
    · have e1 : (cur.toList.take (off + n * i.size)).drop off = xs := by rw [List.drop_take, Nat.add_sub_cancel_left]; exact htake
      have e2 : off ≤ (cur.toList.take (off + n * i.size)).length := by rw [List.length_take, Array.length_toList]; omega
      rw [← hlen]
      simp only []
      rw [List.drop_append_of_le_length e2, e1, ← List.append_assoc]
      exact List.take_left
  · have holds : ∀ j u, xs[j]? = some u → w.cell? ((⟨g, off, none⟩ : Addr).add j) = some u := by
      intro j u hu
      have hadd : (⟨g, off, none⟩ : Addr).add j = ⟨g, off + j, none⟩ := by unfold Addr.add; split <;> simp_all
      rw [hadd]
      rcases hrd with h | ⟨g', off', he, h⟩
      · rw [h] at hu; cases hu
      · injection he with he; injection he with h1 h2; subst h1 h2; exact h j u hu
    have hr := run_append_grow (P := P) w t ty e i z ht hi hz ⟨g, off, none⟩ n c xs hx holds a m c2 news hl hnews (by omega) (by simp only [maxLen] at h63; omega) (growslice_fits (by omega) hbytes)
    have hge := grownCap_ge w (n + m) c e
    have hcm2 : grownCap w (n + m) c e ≤ maxLen := grownCap_le_maxLen w (n + m) c e h63
    refine ⟨_, _, _, _, hr, ⟨hlen, hge, hcm2, hbase, _, heap_alloc_new w.drew _, ?_, ?_⟩, ⟨rfl, rfl, rfl, by simp, fun k hk _ => Below.heap_alloc w.drew _ k hk⟩, .inr rfl⟩
    · simp only [Array.size_append, List.size_toArray, size_zeroCells, hzs, hx, hl, ← Nat.add_mul, Nat.zero_add]
      refine Nat.le_of_eq ?_
      congr 1
      omega
    · simp only [Array.toList_append, List.append_assoc, List.drop_zero]
      rw [← List.append_assoc, ← hlen]
      exact List.take_left
end
section
variable (w : World) {ops : Array Oper} {rest : List Oper} {o : Oper} {a : Act} {Q : Exit → Act → World → Prop}
theorem app_QC (hgd : o.guard = none) (s x : Operand) (ho : o.op = .call { callee := .builtin .append, args := #[s, x], argTypes := #[30, 30] })
    (base g off n c : Nat) (l : List C) (hs : a.eval s = .slice (some ⟨g, off, none⟩) n c) (hown : World.ownsQ w base 59 2 g off n c (vC l))
    (g2 m c2 : Nat) (l2 : List C) (hx : a.eval x = .slice (some ⟨g2, 0, none⟩) m c2) (hr : ∀ j u, (vC l2)[j]? = some u → w.cell? ((⟨g2, 0, none⟩ : Addr).add j) = some u) (hl : l2.length = m) (hb : n + m ≤ 1099511627776) (hbase : base ≤ w.heap.size)
    (h : ∀ g' off' c' w', World.ownsQ w' base 59 2 g' off' (n + m) c' (vC (l ++ l2)) → w.grownBy w' (some g) → (g' = g ∨ g' = w.heap.size) → wpList Try.prog ops Q rest (a.put o.dst (.slice (some ⟨g', off', none⟩) (n + m) c')) w') :
    wpList Try.prog ops Q (o :: rest) a w := by
  obtain ⟨i0, hi, hz0, hz1, hz2⟩ := info_parts infoC
  refine wpList_plain hgd fun K hK => ?_
  obtain ⟨g', off', c', w', hrun, h2, h3, h4⟩ := run_append_Q (P := Try.prog) w 30 o.type i0 _ 16 Try.underlying30 hi hz0 hz1 hz2 rfl hown ⟨g2, 0, none⟩ m c2 (vC l2) (by rw [vC_length, hl]) hr (vC_one _) (by unfold maxLen; omega) (by omega) hbase
  rw [← vC_append] at h2
  unfold Oper.wp execOp
  simp only [ho, resolve, invoke, builtin, Sem.run_bind, Sem.run_pure, Result.andThen_ok, List.map_toArray, List.map_cons, List.map_nil, hs, hx, hrun]
  exact hK _ _ (h g' off' c' w' h2 h3 h4)
end
theorem newC_cells (w : World) (t : TypeId) (x y : Int) : ∀ j u, (vC [(x, y)])[j]? = some u → (w.alloc (.cells #[.int .i64 x, .int .i64 y] t)).cell? ((⟨w.heap.size, 0, none⟩ : Addr).add j) = some u := by
  intro j u hu
  have h := rd_newC w t x y
  rcases h with h | ⟨g, off, he, h⟩
  · simp [vC] at h
  · injection he with he; injection he with h1 h2; subst h1 h2
    have := h j u hu
    have hadd : (⟨w.heap.size, 0, none⟩ : Addr).add j = ⟨w.heap.size, 0 + j, none⟩ := by unfold Addr.add; split <;> simp_all
    rw [hadd]; exact this
end Go.Proofs.Ytglilkneipfheaa
