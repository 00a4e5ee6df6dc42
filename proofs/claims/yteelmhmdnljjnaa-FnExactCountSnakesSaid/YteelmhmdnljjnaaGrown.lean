/- All shapes of some cells: the program. -/
import Derived.Test.YteelmhmdnljjnaaExtI
import Derived.Test.YteelmhmdnljjnaaSmall
import Derived.Outline
import Derived.WalkLawsBesides
import Derived.WalkSpells
import Derived.BigQuiet
import Derived.Deep.QuietTactic
import Derived.Deep.RegionHeld3
import Derived.Deep.RegionWith
import Derived.Deep.DeepCutAuto
import Derived.Deep.CutBlock
import Derived.Deep.DrawnRows
namespace Go.Proofs.Yteelmhmdnljjnaa
open Go.RowKit
set_option linter.unusedVariables false
attribute [local go_sem ↓] Go.wp_at_zero Go.wp_at_succ

theorem RdF.grown {w w' : World} {A : Option Addr} {n : Nat} {hs : List H} {F : List (List C)} (h : RdF w A n hs F) {D : Option Addr} {q cq base sz : Nat} {vs : List Value} (ho : w.ownsRow base 31 sz (.slice D q cq) q vs)
    (hg : w.grownBy w' (ob D)) (hn : ∀ g, ob A = some g → ob D ≠ some g) : RdF w' A n hs F :=
  ⟨h.top.grown hg (fun g e r => hn g e r.symm), h.hlen, h.flen, fun i x f a b => (h.row i x f a b).grown hg (fun g e => (h.row i x f a b).apart ho g e)⟩
theorem pow32 (k : Nat) (h : k ≤ 4) : 32 ^ k ≤ 1048576 := by
  have : 32 ^ k ≤ 32 ^ 4 := Nat.pow_le_pow_right (by omega) h
  simpa using this
set_option maxRecDepth 100000 in
set_option maxHeartbeats 3200000 in
theorem grown_i (n : Nat) (w : World) (hn1 : 1 ≤ n) (hn6 : n ≤ 6) : Calls Try.prog 37 #[.int .i64 (n : Int)] w (RetF w (fixV (n - 1))) := by
  have hini : OwnF w.heap.size ((w.alloc (.cells #[.int .i64 0, .int .i64 0] 36)).alloc (.cells #[.slice (some ⟨w.heap.size, 0, none⟩) 1 1] 31)) (some ⟨w.heap.size + 1, 0, none⟩) 1 1 [(some ⟨w.heap.size, 0, none⟩, 1, 1)] (fixV 0) := by
    refine ⟨?_, rfl, fun i x f h1 h2 => ?_⟩
    · have := own_new (w.alloc (.cells #[.int .i64 0, .int .i64 0] 36)) 31 1 1 #[.slice (some ⟨w.heap.size, 0, none⟩) 1 1] rfl (by simp [maxLen]) (base := w.heap.size) (by simp)
      simpa [vS, hd] using this
    · have hi : i = 0 := by have := (List.getElem?_eq_some_iff.1 h1).1; simp at this; exact this
      subst hi
      simp at h1
      simp [fixV] at h2
      subst h1 h2
      have := (own_new w 36 2 1 #[.int .i64 0, .int .i64 0] rfl (by simp [maxLen]) (base := w.heap.size) (Nat.le_refl _)).alloc (.cells #[.slice (some ⟨w.heap.size, 0, none⟩) 1 1] 31)
      exact CRow.of_own (by simpa [vC] using this)
  have HI := Lib.hid hini
  clear hini
  go_enter Try.func37, Try.ntmps37
  go_wp2
  go_loopw [4, 3] (fun e4 e3 wr => ∃ (k m c : Nat) (A : Option Addr) (hs : List H), 1 ≤ k ∧ k ≤ n ∧ e4 = .int .i64 k ∧ e3 = .slice A m c ∧ OwnF w.heap.size wr A m c hs (fixV (k - 1)) ∧ Below w.heap.size w wr) (fun e4 _ _ => n - (intOf e4).toNat)
  case atStart => exact ⟨1, 1, 1, _, _, Nat.le_refl _, hn1, by simp, by simp, HI.out, (by (repeat (first | with_reducible exact Below.refl _ _ | with_reducible assumption | with_reducible apply bel_alloc | with_reducible apply bel_drew | with_reducible apply bel_drewN | ((with_reducible refine bel_set ?_ ?_); rotate_left; (simp <;> omega)) | (with_reducible refine bel_trans ?_ (by with_reducible assumption)))))⟩
  case round =>
    obtain ⟨k, m, c, A, hs, hk1, hkn, rfl, rfl, hO, hb⟩ := hrel
    obtain ⟨v, hv⟩ : ∃ v, v = wr := ⟨_, rfl⟩
    subst hv
    by_cases hlt : k < n
    · have hkI : (k : Int) < (n : Int) := by omega
      obtain ⟨k0, hk0⟩ : ∃ k0, k = k0 + 1 := ⟨k - 1, by omega⟩
      have hkk : k - 1 = k0 := by omega
      rw [hkk] at hO
      have HNX : Hid (fixV (k + 1 - 1) = growN (fixV k0) m) := by show fixV (k + 1 - 1) = _; rw [Nat.add_sub_cancel, hk0, ← hO.flen]; rfl
      have hml : m ≤ 1048576 := by have h1 := fixV_len k0; have h2 := pow32 k0 (by omega); rw [hO.flen] at h1; omega
      have hsh := (fixV_fine k0).2
      obtain ⟨F, hF⟩ : ∃ F, fixV k0 = F := ⟨_, rfl⟩
      rw [hF] at hO hsh
      rw [hF] at HNX
      have HO := Lib.hid hO
      have HFL := Lib.hid hO.flen
      have HSH := Lib.hid hsh
      have HKK := Lib.hid hk0
      have hbz := hb.size
      clear hO hF hsh hk0 hkk
      go_wp2
      go_loopw [20, 5] (fun e20 e5 wr2 => ∃ (i q cq : Nat) (D : Option Addr) (hs2 : List H), i ≤ m ∧ e20 = .int .i64 i ∧ e5 = .slice D q cq ∧ OwnF v.heap.size wr2 D q cq hs2 (growN F i) ∧ Below v.heap.size v wr2) (fun e20 _ _ => m - (intOf e20).toNat)
      case atStart => exact ⟨0, 0, 0, none, [], Nat.zero_le _, rfl, rfl, OwnF.nil _ _, Below.refl _ _⟩
      case round =>
        obtain ⟨i, q, cq, D, hs2, hi, rfl, rfl, hO2, hb2⟩ := hrel
        by_cases him : i < m
        · have hi0 : (0 : Int) ≤ (i : Int) := by omega
          have hi1 : (i : Int) < (m : Int) := by omega
          have hRF := (HO.out.below hb2).rd
          obtain ⟨x, t, g, off, hsx, hfx, hAe, hg, d1, hrow⟩ := hRF.at_ him
          have htsh := HSH.out t (List.mem_of_getElem? hfx)
          have hiF : i < F.length := by rw [HFL.out]; exact him
          have hgs := growN_succ F i hiF
          rw [show F[i] = t from by rw [List.getElem?_eq_getElem hiF] at hfx; injection hfx] at hgs
          have hgl := growN_len F HSH.out i (by omega)
          have hgf := growN_fine F i (by omega)
          obtain ⟨C1, m1, k1⟩ := x
          have hl1 : t.length = m1 := hrow.1
          obtain ⟨G0, hG0⟩ : ∃ G0, growN F i = G0 := ⟨_, rfl⟩
          rw [hG0] at hgs hgl hgf hO2
          have HL1 := Lib.hid hl1
          have HT := Lib.hid htsh
          have HROW := Lib.hid hrow
          have HGS := Lib.hid hgs
          have HGF := Lib.hid hgf
          have HO2 := Lib.hid hO2
          have hql : q ≤ 32 * i := by rw [← hO2.flen]; exact hgl
          have hDlt := own_lt hO2.own
          have HDL := Lib.hid hDlt
          dsimp only at d1
          subst hAe
          clear hsx hfx hrow htsh hgs hgf hgl hO2 hG0 hl1 hRF hDlt
          go_wp2_with fail
          refine (extensions_i C1 m1 k1 t _ HROW.out.2.1 HL1.out HT.out).mono ?_
          rintro e w1 ⟨E, me, ce, hsE, rfl, hoE, hb3⟩
          have hel : me ≤ 32 := by rw [← hoE.flen]; have h1 := extV_len t; have h2 := (shape_len HT.out).2; omega
          have HRE := Lib.hid hoE.rd
          have HEL := Lib.hid (own_lt hoE.own)
          have HFE := Lib.hid hoE.flen
          have HO3 := Lib.hid (HO2.out.below hb3)
          have hb23 : Below v.heap.size v w1 := bel_trans hb2 hb3
          have HSEP : Hid (∀ g, ob D = some g → ob E ≠ some g) := fun g e r => by have h1 := (HDL.out g e).2; have h2 := (HEL.out g r).1; omega
          clear hoE HO2 HROW hb2 hb3 d1
          go_wp2_with fail
          go_loopw [27, 5] (fun e27 e5 wr3 => ∃ (j q cq : Nat) (D : Option Addr) (hs2 : List H) (G : List (List C)), j ≤ me ∧ e27 = .int .i64 j ∧ e5 = .slice D q cq ∧ G = ((extV t).take j).foldl (putG ltS) G0 ∧ OwnF v.heap.size wr3 D q cq hs2 G ∧ FineF G ∧ G.length ≤ 32 * i + j ∧ RdF wr3 E me hsE (extV t) ∧ (∀ g, ob D = some g → ob E ≠ some g) ∧ Below v.heap.size v wr3) (fun e27 _ _ => me - (intOf e27).toNat)
          case atStart => exact ⟨0, q, cq, D, hs2, G0, Nat.zero_le _, rfl, rfl, rfl, HO3.out, HGF.out, by rw [HO3.out.flen]; omega, HRE.out, HSEP.out, hb23⟩
          case round =>
            clear HSEP HO3 HRE HDL hb23 hg
            obtain ⟨j, q, cq, D, hs2, G, hj, rfl, rfl, hG, hO, hfi, hgl, hre, hsep, hb3⟩ := hrel
            by_cases hjm : j < me
            · have hj0 : (0 : Int) ≤ (j : Int) := by omega
              have hj1 : (j : Int) < (me : Int) := by omega
              obtain ⟨x, s2, g2, o2, hsx, hfx, hEe, hg2, d1, hrow⟩ := hre.at_ hjm
              have hs2sh := (extTo_fine sidesV t t.length).2 s2 (List.mem_of_getElem? hfx)
              have hjE : j < (extV t).length := by rw [HFE.out]; exact hjm
              have hstep : ((extV t).take (j + 1)).foldl (putG ltS) G0 = putG ltS G s2 := by
                rw [List.take_succ_eq_append_getElem hjE, List.foldl_append, ← hG, show (extV t)[j] = s2 from by rw [List.getElem?_eq_getElem hjE] at hfx; injection hfx]
                rfl
              obtain ⟨B, m2, k2⟩ := x
              have hl2 : s2.length = m2 := hrow.1
              have hm28 : m2 ≤ 8 := by have := (shape_len hs2sh).2; omega
              have hqG : q ≤ 32 * i + j := by rw [← hO.flen]; exact hgl
              have HQL := Lib.hid hO.flen
              have HO := Lib.hid hO
              have HFI := Lib.hid hfi
              have HRE := Lib.hid hre
              have HSEP := Lib.hid hsep
              have HROW := Lib.hid hrow
              have HS2 := Lib.hid hs2sh
              have HST := Lib.hid hstep
              have HPB : Hid (putB ltS G s2 = putG ltS G s2) := putB_eq ltS_sto hfi.1 s2
              dsimp only at d1
              have HEE := Lib.hid hEe
              subst hEe
              clear hG hO hfi hre hsep hsx hfx hrow hs2sh hstep hl2 hgl
              go_wp2_with fail
              refine (putShape_i D q cq hs2 G B m2 k2 s2 v.heap.size _ HO.out HROW.out HFI.out.1 (fun x hx => by have := HFI.out.len x hx; omega) (by omega) (by omega) hb3.size).mono ?_
              rw [HPB.out, ← HST.out]
              rintro e w8 ⟨D3, q3, c3, hs3, rfl, hO8, hg8, hD8⟩
              have HO8 := Lib.hid hO8
              have hq8 : q3 ≤ 32 * i + (j + 1) := by
                rw [← hO8.flen, HST.out]
                have := putG_len (lt := ltS) G s2
                have := HQL.out
                omega
              have HFL8 : Hid ((((extV t).take (j + 1)).foldl (putG ltS) G0).length ≤ 32 * i + (j + 1)) := by show _ ≤ _; rw [hO8.flen]; exact hq8
              have HRE8 := Lib.hid (HRE.out.grown HO.out.own hg8 (fun g e r => HSEP.out g r e))
              have HB8 : Hid (Below v.heap.size v w8) := bel_app hb3 hg8 (fun g e => (own_lt HO.out.own g e).1)
              have HF8 : Hid (FineF (((extV t).take (j + 1)).foldl (putG ltS) G0)) := by show FineF _; rw [HST.out]; exact HFI.out.put HS2.out
              have HSEP8 : Hid (∀ g, ob D3 = some g → ob (some (⟨g2, o2, none⟩ : Addr)) ≠ some g) := fun g e r => by
                rcases hD8 g e with h1 | h1
                · exact HSEP.out g h1 r
                · simp only [ob, Option.map_some, Option.some.injEq] at r; omega
              clear hO8 hg8 hD8
              go_wp2_with fail
              exact ⟨⟨j + 1, q3, c3, D3, hs3, _, by omega, by go_num, rfl, rfl, HO8.out, HF8.out, HFL8.out, HRE8.out, HSEP8.out, HB8.out⟩, by simp [intOf]; omega⟩
            · obtain rfl : j = me := by omega
              have hGe : growN F (i + 1) = G := by rw [HGS.out, hG, List.take_of_length_le (by rw [HFE.out]; omega)]
              rw [← hGe] at hO
              have HO := Lib.hid hO
              have hj1 : ¬ (j : Int) < (j : Int) := by omega
              clear hO hG hGe hre hsep
              go_wp2_with fail
              exact ⟨⟨i + 1, q, cq, D, hs2, by omega, by go_num, rfl, HO.out, hb3⟩, by simp [intOf]; omega⟩
        · obtain rfl : i = m := by omega
          rw [← HNX.out] at hO2
          have HO2 := Lib.hid (hO2.mono hbz)
          have hi1 : ¬ (i : Int) < (i : Int) := by omega
          clear hO2
          go_wp2_with fail
          exact ⟨⟨k + 1, q, cq, D, hs2, by omega, by omega, by go_num, rfl, HO2.out, bel_trans hb hb2⟩, by simp [intOf]; omega⟩
    · obtain rfl : k = n := by omega
      have HO := Lib.hid hO
      have hkI : ¬ (k : Int) < (k : Int) := by omega
      clear hO
      go_wp2
      go_ret
      exact ⟨A, m, c, hs, rfl, HO.out, hb⟩
/-- All shapes of n cells, where n lies in the bounds. -/
def fixA (n : Int) : List (List C) := if 1 ≤ n ∧ n ≤ 5 then fixV (n.toNat - 1) else []
theorem FixedShapes_i (n : Int) (w : World) : Calls Try.prog 21 #[.int .i64 n] w (RetF w (fixA n)) := by
  by_cases h : 1 ≤ n ∧ n ≤ 5
  · obtain ⟨k, rfl⟩ : ∃ k : Nat, n = (k : Int) := ⟨n.toNat, by omega⟩
    have HV : Hid (fixA (k : Int) = fixV (k - 1)) := by show fixA _ = _; unfold fixA; rw [if_pos h]; simp
    have h1 : 1 ≤ k := by omega
    have h5 : k ≤ 6 := by omega
    have HB := Lib.hid h
    clear h
    go_enter Try.func21, Try.ntmps21
    go_wp2_with fail
    refine (between_t (k : Int) 1 5 _ HB.out.1 HB.out.2).mono ?_
    rintro e w1 ⟨rfl, hb1⟩
    go_wp2_with fail
    refine (grown_i k _ h1 h5).mono ?_
    rw [← HV.out]
    rintro e w2 ⟨A, m, c, hs, rfl, hO, hb2⟩
    have HO := Lib.hid (hO.mono hb1.size)
    clear hO
    go_wp2_with fail
    go_ret
    exact ⟨A, m, c, hs, rfl, HO.out, bel_trans hb1 hb2⟩
  · have HV : Hid (fixA n = []) := by show fixA _ = _; unfold fixA; rw [if_neg h]
    have HB := Lib.hid h
    clear h
    go_enter Try.func21, Try.ntmps21
    go_wp2_with fail
    refine (between_f n 1 5 _ HB.out).mono ?_
    rintro e w1 ⟨rfl, hb1⟩
    go_wp2_with fail
    go_ret
    exact ⟨none, 0, 0, [], rfl, by rw [HV.out]; exact OwnF.nil _ _, hb1⟩
def cntV (n hi : Int) : Int := if 1 ≤ n ∧ n ≤ hi then ((fixV (n.toNat - 1)).length : Nat) else -1
end Go.Proofs.Yteelmhmdnljjnaa
