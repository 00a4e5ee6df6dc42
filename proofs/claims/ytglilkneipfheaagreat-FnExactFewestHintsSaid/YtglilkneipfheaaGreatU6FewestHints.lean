/- Texts of this claim, one behind the other: part 6. -/
import Derived.Test.YtglilkneipfheaaGreatU5FewestHints
import Derived.Laws.EntriesVeiled
import Derived.Outline
import Derived.WalkLawsBesides
import Derived.WalkSpells
import Derived.BigQuiet
import Derived.Deep.QuietTactic
import Derived.Deep.RegionHeld3
import Derived.Deep.RegionWith
import Derived.Deep.DeepCutAuto
import Derived.Deep.CutBlock
import Derived.Deep.DrawnRows
import Derived.Lib.SmallJoins
/- Puzzles: the solutions of the program. -/
namespace Go.Proofs.YtglilkneipfheaaGreat
open Go.RowKit
set_option linter.unusedVariables false
attribute [local go_sem ↓] Go.wp_at_zero Go.wp_at_succ
/-- One row more, in a block or in none. -/
theorem Own2.pushA {base : Nat} {w w3 : World} {B B' A1 : Option Addr} {n c c' nf cf : Nat} {hs : List H} {F : List (List Int)} {f : List Int}
    (h : Own2 base w B n c hs F) (hf : w.ownsRow base 3 1 (.slice A1 nf cf) nf (vI f)) (h1 : ∀ g, ob A1 = some g → ob B ≠ some g ∧ away hs g)
    (ho : w3.ownsRow base 22 1 (.slice B' (n + 1) c') (n + 1) (vS (hs ++ [(A1, nf, cf)]))) (hg : w.grownBy w3 (ob B)) (ha : ∀ g, ob B' = some g → ob B = some g ∨ w.heap.size ≤ g) :
    Own2 base w3 B' (n + 1) c' (hs ++ [(A1, nf, cf)]) (F ++ [f]) := by
  have hold : ∀ k (a : k < hs.length) g, ob hs[k].1 = some g → g < w.heap.size := fun k a g e => (own_lt (h.row k a (h.len ▸ a)) g e).2
  have hf1 := fun g e => (own_lt hf g e).2
  refine ⟨ho, by simp [h.len], fun k a b => ?_, fun g e => ?_, ?_⟩
  · by_cases hk : k < hs.length
    · have hk2 : k < F.length := h.len ▸ hk
      simp only [List.getElem_append_left hk, List.getElem_append_left hk2]
      exact own_kept (h.row k hk hk2) hg fun g e r => h.off g r _ (List.getElem_mem hk) e
    · have e : k = hs.length := by simp at a; omega
      subst e
      have e3 : (hs ++ [((A1, nf, cf) : H)])[hs.length]'a = (A1, nf, cf) := by simp
      have e4 : (F ++ [f])[hs.length]'b = f := by rw [List.getElem_append_right (Nat.le_of_eq h.len.symm)]; simp
      rw [e3, e4]
      exact own_kept hf hg fun g e r => (h1 g e).1 r
  · intro x hx
    rcases List.mem_append.1 hx with hx | hx
    · rcases ha g e with k1 | k1
      · exact h.off g k1 x hx
      · intro r
        obtain ⟨k, hk, rfl⟩ := List.mem_iff_getElem.1 hx
        have := hold k hk g r
        omega
    · simp only [List.mem_singleton] at hx
      subst hx
      intro r
      rcases ha _ e with k1 | k1
      · exact (h1 g r).1 k1
      · have := hf1 g r; omega
  · have hn1 : ∀ i (a : i < hs.length) g, ob hs[i].1 = some g → ob A1 ≠ some g := fun i a g e r => (h1 g r).2 _ (List.getElem_mem a) e
    intro i j a b hij g e
    by_cases hi : i < hs.length
    · by_cases hj : j < hs.length
      · simp only [List.getElem_append_left hi] at e
        simp only [List.getElem_append_left hj]
        exact h.sep i j hi hj hij g e
      · have ej : j = hs.length := by simp at b; omega
        subst ej
        simp only [List.getElem_append_left hi] at e
        simp only [List.getElem_append_right (Nat.le_refl _), Nat.sub_self, List.getElem_cons_zero]
        exact hn1 i hi g e
    · have ei : i = hs.length := by simp at a; omega
      subst ei
      have hj : j < hs.length := by simp at b; omega
      simp only [List.getElem_append_right (Nat.le_refl _), Nat.sub_self, List.getElem_cons_zero] at e
      simp only [List.getElem_append_left hj]
      exact fun r => hn1 j hj g r e
theorem zipP_take {hint : List Int} {W : Int} {rows : List Int} {P : List (List C)} {i : Nat} {f : List C} {h : Int} (hf : P[i]? = some f) (hh : hint[i]? = some h) : (List.zipWith hintP hint (placesV W rows P)).take (i + 1) = (List.zipWith hintP hint (placesV W rows P)).take i ++ [hintP h (plV W rows f)] := by
  obtain ⟨hi, hf⟩ := List.getElem?_eq_some_iff.1 hf
  obtain ⟨hj, hh⟩ := List.getElem?_eq_some_iff.1 hh
  rw [List.take_succ_eq_append_getElem (by simp [placesV]; omega)]
  congr 2
  simp [placesV, hf, hh]
theorem zipP_nil {hint : List Int} {W : Int} {rows : List Int} {P : List (List C)} {i : Nat} {f : List C} {h : Int} {free : Nat} (hf : P[i]? = some f) (hh : hint[i]? = some h) (he : hintP h (plV W rows f) = []) : solA (List.zipWith hintP hint (placesV W rows P)) free = [] := by
  refine sol_nil _ _ ?_
  have h2 := zipP_take (W := W) (rows := rows) hf hh
  rw [he] at h2
  exact List.mem_of_mem_take (h2 ▸ List.mem_append_right _ (List.mem_cons_self ..))
theorem mask36 (W : Int) (rows : List Int) : maskV W rows < 2 ^ 36 := by
  unfold maskV
  split
  · next hv =>
    obtain ⟨m, rfl, hm1, hm6, hn1, hn6, hrow⟩ := isReg_yes hv
    have h1 := mkTo_lt hrow rows.length (Nat.le_refl _)
    have h2 : rows.length * m ≤ 6 * 6 := Nat.mul_le_mul (by omega) hm6
    rw [Int.toNat_natCast]
    exact Nat.lt_of_lt_of_le h1 (Nat.pow_le_pow_right (by decide) (by omega))
  · decide
set_option maxRecDepth 100000 in
set_option maxHeartbeats 3200000 in
theorem solutions_i (W : Int) (A B D : Option Addr) (n c q cb kh cd : Nat) (rows hint : List Int) (hs : List H) (P : List (List C)) (w : World) (hr : Rd w A (vI rows)) (hl : rows.length = n) (hv : isReg W rows = true) (hp : RdP w B q hs P) (hpc : pcs P = true) (hrd : Rd w D (vI hint)) (hll : hint.length = kh) (hkh : kh = 0 ∨ kh = q) :
    Calls Tryz.prog 72 #[.agg #[.int .i64 W, .slice A n c], .slice B q cb, .slice D kh cd] w (RetO2 w (puzV W rows P (hint ++ List.replicate (q - kh) (-1)))) := by
  obtain ⟨hf, hhf⟩ : ∃ hf, hint ++ List.replicate (q - kh) (-1) = hf := ⟨_, rfl⟩
  have hfl : hf.length = q := by rw [← hhf]; simp; omega
  have hq5 := (pcs_small hpc).1
  rw [hp.flen] at hq5
  have htc := (pcs_small hpc).2
  have hsh := (pcs_at hpc).2
  have hq1 : 1 ≤ q := by
    have := hpc
    unfold pcs at this
    simp only [Bool.and_eq_true, decide_eq_true_eq] at this
    have h2 := hp.flen
    omega
  have hpa : paV P = ((totC P : Nat) : Int) := by unfold paV; rw [if_pos hpc]
  have HPA := Lib.hid hpa
  have HSH := Lib.hid hsh
  have HL := Lib.hid hl
  have HLL := Lib.hid hll
  have HHF := Lib.hid hhf
  have HFL := Lib.hid hfl
  have HV := Lib.hid hv
  have HPF := Lib.hid hp.flen
  have HR := Lib.hid hr
  have HP := Lib.hid hp
  have HRD := Lib.hid hrd
  have HKH := Lib.hid hkh
  rw [hhf]
  clear hl hr hv hp hsh hpc hpa hrd hll hhf hkh
  obtain ⟨ar, har⟩ : ∃ ar, areaV W rows = ar := ⟨_, rfl⟩
  obtain ⟨pa, hpa⟩ : ∃ pa, ((totC P : Nat) : Int) = pa := ⟨_, rfl⟩
  have HAR := Lib.hid har
  have HPV := Lib.hid hpa
  have hdec : (pa != ar) = true ∧ puzV W rows P hf = [] ∨ (pa != ar) = false ∧ puzV W rows P hf = (solA (List.zipWith hintP hf (placesV W rows P)) (maskV W rows)).take 300 := by
    unfold puzV
    rw [har, hpa]
    by_cases h : pa = ar
    · right; exact ⟨by simp [h], by rw [if_pos h]⟩
    · left; exact ⟨by simpa using h, by rw [if_neg h]⟩
  have hareg : ∀ w', Below w.heap.size w w' → Calls Tryz.prog 116 #[.agg #[.int .i64 W, .slice A n c]] w' (Ret w' (.int .i64 ar)) := fun w' hb => HAR.out ▸ AreaOf_i W A n c rows w' (HR.out.below hb) HL.out
  have hpreg : ∀ w', Below w.heap.size w w' → Calls Tryz.prog 88 #[.slice B q cb] w' (Ret w' (.int .i64 pa)) := fun w' hb => HPV.out ▸ area_i B q cb hs P w' (HP.out.below hb) hq5 htc
  have HAC := Lib.hid hareg
  have HPCC := Lib.hid hpreg
  have HDEC := Lib.hid hdec
  clear hdec hareg hpreg har hpa
  have hb0 := Blk.new w 29 #[.int .i64 W, .slice A n c]
  have hb1 := Blk.new (w.alloc (.cells #[.int .i64 W, .slice A n c] 29)) 40 #[.slice none 0 0]
  rw [show (w.alloc (.cells #[.int .i64 W, .slice A n c] 29)).heap.size = w.heap.size + 1 from by simp] at hb1
  have hb0' := hb0.alloc (.cells #[.slice none 0 0] 40)
  have hbw := bel_alloc (bel_alloc (Below.refl w.heap.size w) (.cells #[.int .i64 W, .slice A n c] 29)) (.cells #[.slice none 0 0] 40)
  obtain ⟨w0, hw0⟩ : ∃ w0, (w.alloc (.cells #[.int .i64 W, .slice A n c] 29)).alloc (.cells #[.slice none 0 0] 40) = w0 := ⟨_, rfl⟩
  have HW0 := Lib.hid hw0
  have hs0 : w.heap.size + 2 = w0.heap.size := by rw [← hw0]; simp
  rw [hw0] at hb1 hb0' hbw
  have b00 : w0.cell? ⟨w.heap.size, 0, none⟩ = some (.int .i64 W) := by simpa using hb0'.cell 0
  have b10 : w0.cell? ⟨w.heap.size, 1, none⟩ = some (.slice A n c) := by simpa using hb0'.cell 1
  have hgw0 := hb0'.lt
  have HB0 := Lib.hid hb0'
  have HB1 := Lib.hid hb1
  have HS0 := Lib.hid hs0
  clear hw0 hb0 hb0' hb1 hs0 hfl
  go_enter Tryz.func72, Tryz.ntmps72
  go_wp2_with fail
  rw [HW0.out]
  have HBW := Lib.hid hbw
  clear HW0 hbw
  (refine wp_region_below (by kernel_rfl) (by kernel_rfl) ?_; (repeat (first | go_big_quiet_skip | (refine quietV (v := ?_) (by rfl) rfl (fun w' hbw => ?_) ?_; rotate_left; ((try dsimp only at hbw); have hbc := (bcell hbw).1; have hbf := (bcell hbw).2; go_simp; first | done | with_reducible rfl | first | (with_reducible exact callsB (v := .int .i64 pa) (HPCC.out _ (bel_trans HBW.out (by with_reducible assumption))) hbw) | (with_reducible exact callsB (v := .int .i64 ar) (HAC.out _ (bel_trans HBW.out (by with_reducible assumption))) hbw)); simp only [List.setIfInBounds_toArray, List.set_cons_zero, List.set_cons_succ]))); refine wpQuiet_nil ?_; intro w1 hb1)
  have HBX := Lib.hid (HB1.out.below hb1)
  have HBR := Lib.hid (HB0.out.below hb1)
  have HBW1 := Lib.hid (bel_trans HBW.out hb1)
  clear b00 b10 hgw0 HB0 HB1 HBW HAC HPCC
  rcases HDEC.out with ⟨hne, hv⟩ | ⟨hne, hv⟩
  · have HV2 := Lib.hid hv
    rw [hne]
    clear hv HDEC hne hb1
    go_wp2_with fail
    go_ret
    exact ⟨none, 0, 0, [], rfl, by rw [HV2.out]; exact Own2.nil _ _, HBW1.out⟩
  · have HV2 := Lib.hid hv
    rw [hne]
    clear hv HDEC hne
    go_wp2_with fail
    obtain ⟨Z, hZ⟩ : ∃ Z, List.zipWith hintP hf (placesV W rows P) = Z := ⟨_, rfl⟩
    have HZ := Lib.hid hZ
    have hZl : Z.length = q := by rw [← hZ]; simp [placesV, HFL.out, HPF.out]
    have HZL := Lib.hid hZl
    have hgp := Blk.new w1 110 #[.slice none 0 0, .func (.func 117) #[] #[.pointer (some ⟨w.heap.size + 1, 0, none⟩)]]
    have hx2 := HBX.out.alloc (.cells #[.slice none 0 0, .func (.func 117) #[] #[.pointer (some ⟨w.heap.size + 1, 0, none⟩)]] 110)
    have hr2 := HBR.out.alloc (.cells #[.slice none 0 0, .func (.func 117) #[] #[.pointer (some ⟨w.heap.size + 1, 0, none⟩)]] 110)
    have hw2 := bel_alloc HBW1.out (.cells #[.slice none 0 0, .func (.func 117) #[] #[.pointer (some ⟨w.heap.size + 1, 0, none⟩)]] 110)
    obtain ⟨gp, hgpe⟩ : ∃ gp, w1.heap.size = gp := ⟨_, rfl⟩
    have hgp1 : w.heap.size + 1 < gp := by rw [← hgpe]; exact HBX.out.lt
    rw [hgpe] at hgp ⊢
    obtain ⟨w2, hw2e⟩ : ∃ w2, w1.alloc (.cells #[.slice none 0 0, .func (.func 117) #[] #[.pointer (some ⟨w.heap.size + 1, 0, none⟩)]] 110) = w2 := ⟨_, rfl⟩
    have hgb : gp < w2.heap.size := by rw [← hw2e, ← hgpe]; simp
    rw [hw2e] at hgp hx2 hr2 hw2 ⊢
    have HGB := Lib.hid hgb
    have HGP := Lib.hid hgp
    have HX2 := Lib.hid hx2
    have HR2 := Lib.hid hr2
    have HW2 := Lib.hid hw2
    clear hw2e hgpe hgp hx2 hr2 hw2 hZ hZl hb1 HBX HBR HBW1 hgb
    go_loopw [21] (fun e21 wr => ∃ (i ci : Nat) (D1 : Option Addr) (h1 : List H), i ≤ q ∧ e21 = .int .i64 i ∧ Blk wr gp 110 #[.slice D1 i ci, .func (.func 117) #[] #[.pointer (some ⟨w.heap.size + 1, 0, none⟩)]] ∧ Own2 w2.heap.size wr D1 i ci h1 (Z.take i) ∧ Blk wr (w.heap.size + 1) 40 #[.slice none 0 0] ∧ Blk wr w.heap.size 29 #[.int .i64 W, .slice A n c] ∧ Below w.heap.size w wr ∧ w2.heap.size ≤ wr.heap.size) (fun e21 _ => q - (intOf e21).toNat)
    case atStart => exact ⟨0, 0, none, [], Nat.zero_le _, rfl, HGP.out, Own2.nil _ _, HX2.out, HR2.out, HW2.out, Nat.le_refl _⟩
    case round =>
      clear HGP HX2 HR2 HW2
      obtain ⟨i, ci, D1, h1, hi, rfl, hgp, hO, hbx, hbr, hbw, hsz⟩ := hrel
      have hDG : ∀ g, ob D1 = some g → ¬ g < w2.heap.size := fun g hg hl => by have h3 := (own_lt hO.own g hg).1; omega
      have HDG := Lib.hid hDG
      have HGP := Lib.hid hgp
      have HO := Lib.hid hO
      have HBX := Lib.hid hbx
      have HBR := Lib.hid hbr
      have HBW1 := Lib.hid hbw
      have HSZ := Lib.hid hsz
      have b0 : wr.cell? ⟨w.heap.size, 0, none⟩ = some (.int .i64 W) := by simpa using hbr.cell 0
      have b1 : wr.cell? ⟨w.heap.size, 1, none⟩ = some (.slice A n c) := by simpa using hbr.cell 1
      have hgw := hbr.lt
      clear hgp hO hbx hbr hbw hsz hDG
      by_cases hlt : i < q
      · have hi0 : (0 : Int) ≤ (i : Int) := by omega
        have hi1 : (i : Int) < (q : Int) := by omega
        obtain ⟨x, f, g, off, _, hfx, hBe, hg0, d0, l1, r1⟩ := (HP.out.below HBW1.out).at_ hlt
        have hfs := HSH.out f (List.mem_of_getElem? hfx)
        have hif : i < hf.length := by rw [HFL.out]; exact hlt
        obtain ⟨h, hh⟩ : ∃ h, hf[i]? = some h := ⟨hf[i], List.getElem?_eq_getElem hif⟩
        have hst : Z.take (i + 1) = Z.take i ++ [hintP h (plV W rows f)] := by rw [← HZ.out]; exact zipP_take hfx hh
        have hnil : hintP h (plV W rows f) = [] → puzV W rows P hf = [] := fun e => by
          rw [HV2.out, zipP_nil hfx hh e]
          rfl
        obtain ⟨C1, m1, k1⟩ := x
        have HFS := Lib.hid hfs
        have HRF := Lib.hid r1
        have HL1 := Lib.hid l1
        have HST := Lib.hid hst
        have HNI := Lib.hid hnil
        dsimp only at d0
        subst hBe
        clear hfx hst hnil r1 l1 hfs hif
        go_wp2_with fail
        refine (placements_i W A C1 n c m1 k1 rows f _ (HR.out.below HBW1.out) HL.out HV.out HRF.out HL1.out HFS.out).mono ?_
        rintro e u2 ⟨E, q2, c2, rfl, hOE, hbE⟩
        have hq2 : (plV W rows f).length = q2 := by have h3 := own_len hOE; rw [vI_length] at h3; omega
        have HQ2 := Lib.hid hq2
        have HEG : Hid (∀ g, ob E = some g → wr.heap.size ≤ g) := fun g hg => (own_lt hOE g hg).1
        have HOE : Hid (u2.ownsRow w2.heap.size 3 1 (.slice E q2 c2) q2 (vI (plV W rows f))) := own_mono2 hOE HSZ.out
        have HWU := Lib.hid hbE
        have hpl := plV_len W rows f
        have hq3 : q2 ≤ 288 := by omega
        clear hOE hbE hq2 hpl d0 hg0
        by_cases hik : i < kh
        · have hik1 : (i : Int) < (kh : Int) := by omega
          have hkq : kh = q := by rcases HKH.out with e | e <;> omega
          have hhi : hint[i]? = some h := by
            have h3 := HHF.out
            rw [← h3, List.getElem?_append_left (by rw [HLL.out]; exact hik)] at hh
            exact hh
          obtain ⟨hil, hhe⟩ := List.getElem?_eq_some_iff.1 hhi
          obtain ⟨gH, oH, hDe, hgH, dH⟩ := RdI.at_ ((HRD.out.below HBW1.out).below HWU.out) hil
          rw [hhe] at dH
          have HHH := Lib.hid hh
          subst hDe
          clear hkq hhi hil hhe hh
          by_cases h0 : h ≥ 0
          · cases hany : (plV W rows f).any (· == h) with
            | false =>
              have HN := Lib.hid (HNI.out (hintP_none h0 hany))
              have HANY := Lib.hid hany
              clear hany
              go_wp2_with fail
              refine (hasInt_i E q2 c2 (plV W rows f) h _ (Rd.of_own HOE.out) HQ2.out (by omega)).mono ?_
              rw [HANY.out]
              rintro e u4 ⟨rfl, hb4⟩
              go_wp2_with fail
              go_ret
              exact ⟨none, 0, 0, [], rfl, by rw [HN.out]; exact Own2.nil _ _, bel_trans (bel_trans HBW1.out HWU.out) hb4⟩
            | true =>
              have hone := hintP_one h0 (plV_inc W rows f) hany
              rw [hone] at HST
              have HANY := Lib.hid hany
              clear hany hone HNI
              go_wp2_with fail
              refine (hasInt_i E q2 c2 (plV W rows f) h _ (Rd.of_own HOE.out) HQ2.out (by omega)).mono ?_
              rw [HANY.out]
              rintro e u4 ⟨rfl, hb4⟩
              have hlit := own_new u4 3 1 1 #[.int .i64 h] rfl (by simp [maxLen]) (base := w2.heap.size) (by have h3 := hb4.size; have h4 := HWU.out.size; have h5 := HSZ.out; omega)
              have hsz4 : wr.heap.size ≤ u4.heap.size := by have h3 := hb4.size; have h4 := HWU.out.size; omega
              have hwu4 := bel_alloc (bel_trans HWU.out hb4) (.cells #[.int .i64 h] 3)
              have dH4 := keep_below hb4 dH
              have hgH4 : gH < u4.heap.size := Nat.lt_of_lt_of_le hgH hb4.size
              obtain ⟨u5, hu5⟩ : ∃ u5, u4.alloc (.cells #[.int .i64 h] 3) = u5 := ⟨_, rfl⟩
              rw [hu5] at hlit hwu4
              obtain ⟨g4, hg4⟩ : ∃ g4, u4.heap.size = g4 := ⟨_, rfl⟩
              rw [hg4] at hlit hsz4
              have HU5 := Lib.hid hu5
              have HG4 := Lib.hid hg4
              clear HOE HEG HWU dH hgH
              have HWU := Lib.hid hwu4
              have HOE : Hid (u5.ownsRow w2.heap.size 3 1 (.slice (some ⟨g4, 0, none⟩) 1 1) 1 (vI [h])) := hlit
              have HEG : Hid (∀ g, ob (some (⟨g4, 0, none⟩ : Addr)) = some g → wr.heap.size ≤ g) := fun g hg => by
                simp only [ob, Option.map_some, Option.some.injEq] at hg
                omega
              clear hlit hwu4 hsz4 hu5 hg4 hb4
              go_upto_region 13 with fail
              rw [HU5.out, HG4.out]
              clear dH4 hgH4 HU5 HG4
              have HB5 := Lib.hid (HGP.out.below HWU.out)
              have d5 : u5.cell? ⟨gp, 0, none⟩ = some (.slice D1 i ci) := by simpa using HB5.out.cell 0
              have l5 : gp < u5.heap.size := HB5.out.lt
              have f5 : u5.frozen? ⟨gp, 0, none⟩ = false := HB5.out.frozen 0
              clear b0 b1 hgw
              go_wp2_with (at_builtin; go_must (refine app_S _ rfl _ _ rfl w2.heap.size _ _ _ h1 rfl ((HO.out.below HWU.out).own.alloc _) _ _ _ [((some ⟨g4, 0, none⟩), 1, 1)] rfl (rd_newS _ _ _) rfl (by omega) (by have h3 := HWU.out.size; have h4 := HSZ.out; simp; omega) ?_); intro D6 c6 w6 ho6 hg6 hat6; have HO6 := Lib.hid ho6; have HG6 := Lib.hid hg6; have HAT6 := Lib.hid hat6; clear ho6 hg6 hat6; have HB6 := Lib.hid ((HB5.out.alloc (.cells #[.slice (some ⟨g4, 0, none⟩) 1 1] 22)).grown HG6.out (fun e => HDG.out gp e.symm HGB.out)); have d6 : w6.cell? ⟨gp, 0, none⟩ = some (.slice D1 i ci) := (by simpa using HB6.out.cell 0); have f6 : w6.frozen? ⟨gp, 0, none⟩ = false := HB6.out.frozen 0; have l6 : gp < w6.heap.size := HB6.out.lt)
              have hg2 : u5.grownBy w6 (ob D1) := ⟨HG6.out.os, HG6.out.tape, HG6.out.output, by have h3 := HG6.out.size; simp at h3; omega, fun k hk hn => (HG6.out.block k (by simp; omega) hn).trans (Below.heap_alloc u5 _ k hk)⟩
              have hP := Own2.pushA (HO.out.below HWU.out) HOE.out (fun g hg => ⟨fun r => by have h3 := (own_lt HO.out.own g r).2; have h4 := HEG.out g hg; omega, fun x hx r => by
                obtain ⟨t, ht, rfl⟩ := List.mem_iff_getElem.1 hx
                have h3 := (own_lt (HO.out.row t ht (HO.out.len ▸ ht)) _ r).2
                have h4 := HEG.out g hg
                omega⟩) HO6.out hg2 (fun g hg => by
                  rcases HAT6.out with e | e
                  · exact .inl (e ▸ hg)
                  · rw [e] at hg
                    injection hg with hg
                    rw [World.size_alloc] at hg
                    exact .inr (by omega))
              have hP2 := hP.set_far (b := gp) (.slice D6 (i + 1) c6) HGB.out
              rw [← HST.out] at hP2
              have hC6 : Blk (w6.setCell ⟨gp, 0, none⟩ (.slice D6 (i + 1) c6)) gp 110 #[.slice D6 (i + 1) c6, .func (.func 117) #[] #[.pointer (some ⟨w.heap.size + 1, 0, none⟩)]] := HB6.out.set_ 0 _
              have hX6 := (((HBX.out.below HWU.out).grown hg2 (fun e => HDG.out _ e.symm (by have h9 := HGB.out; omega))).far (p := ⟨gp, 0, none⟩) (by show w.heap.size + 1 ≠ gp; omega) (.slice D6 (i + 1) c6))
              have hR6 := (((HBR.out.below HWU.out).grown hg2 (fun e => HDG.out _ e.symm (by have h9 := HGB.out; omega))).far (p := ⟨gp, 0, none⟩) (by show w.heap.size ≠ gp; omega) (.slice D6 (i + 1) c6))
              have hW6 : Below w.heap.size w (w6.setCell ⟨gp, 0, none⟩ (.slice D6 (i + 1) c6)) := bel_set (bel_grown (bel_trans HBW1.out HWU.out) hg2 (fun g hg => by have h3 := (own_lt HO.out.own g hg).1; have h9 := HGB.out; omega)) (by show w.heap.size ≤ gp; omega)
              exact ⟨⟨i + 1, c6, D6, _, by omega, by go_num, hC6, hP2, hX6, hR6, hW6, by have h3 := HSZ.out; have h4 := HWU.out.size; have h5 := hg2.size; simp; omega⟩, by simp [intOf]; omega⟩
          · have hfree := hintP_free (h := h) (p := plV W rows f) (by omega)
            rw [hfree] at HST
            clear hfree HNI
            have HB5 := Lib.hid (HGP.out.below HWU.out)
            have d5 : u2.cell? ⟨gp, 0, none⟩ = some (.slice D1 i ci) := by simpa using HB5.out.cell 0
            have l5 : gp < u2.heap.size := HB5.out.lt
            have f5 : u2.frozen? ⟨gp, 0, none⟩ = false := HB5.out.frozen 0
            clear b0 b1 hgw
            go_wp2_with (at_builtin; go_must (refine app_S _ rfl _ _ rfl w2.heap.size _ _ _ h1 rfl ((HO.out.below HWU.out).own.alloc _) _ _ _ [(E, q2, c2)] rfl (rd_newS _ _ _) rfl (by omega) (by have h3 := HWU.out.size; have h4 := HSZ.out; simp; omega) ?_); intro D6 c6 w6 ho6 hg6 hat6; have HO6 := Lib.hid ho6; have HG6 := Lib.hid hg6; have HAT6 := Lib.hid hat6; clear ho6 hg6 hat6; have HB6 := Lib.hid ((HB5.out.alloc (.cells #[.slice E q2 c2] 22)).grown HG6.out (fun e => HDG.out gp e.symm HGB.out)); have d6 : w6.cell? ⟨gp, 0, none⟩ = some (.slice D1 i ci) := (by simpa using HB6.out.cell 0); have f6 : w6.frozen? ⟨gp, 0, none⟩ = false := HB6.out.frozen 0; have l6 : gp < w6.heap.size := HB6.out.lt)
            have hg2 : u2.grownBy w6 (ob D1) := ⟨HG6.out.os, HG6.out.tape, HG6.out.output, by have h3 := HG6.out.size; simp at h3; omega, fun k hk hn => (HG6.out.block k (by simp; omega) hn).trans (Below.heap_alloc u2 _ k hk)⟩
            have hP := Own2.pushA (HO.out.below HWU.out) HOE.out (fun g hg => ⟨fun r => by have h3 := (own_lt HO.out.own g r).2; have h4 := HEG.out g hg; omega, fun x hx r => by
              obtain ⟨t, ht, rfl⟩ := List.mem_iff_getElem.1 hx
              have h3 := (own_lt (HO.out.row t ht (HO.out.len ▸ ht)) _ r).2
              have h4 := HEG.out g hg
              omega⟩) HO6.out hg2 (fun g hg => by
                rcases HAT6.out with e | e
                · exact .inl (e ▸ hg)
                · rw [e] at hg
                  injection hg with hg
                  rw [World.size_alloc] at hg
                  exact .inr (by omega))
            have hP2 := hP.set_far (b := gp) (.slice D6 (i + 1) c6) HGB.out
            rw [← HST.out] at hP2
            have hC6 : Blk (w6.setCell ⟨gp, 0, none⟩ (.slice D6 (i + 1) c6)) gp 110 #[.slice D6 (i + 1) c6, .func (.func 117) #[] #[.pointer (some ⟨w.heap.size + 1, 0, none⟩)]] := HB6.out.set_ 0 _
            have hX6 := (((HBX.out.below HWU.out).grown hg2 (fun e => HDG.out _ e.symm (by have h9 := HGB.out; omega))).far (p := ⟨gp, 0, none⟩) (by show w.heap.size + 1 ≠ gp; omega) (.slice D6 (i + 1) c6))
            have hR6 := (((HBR.out.below HWU.out).grown hg2 (fun e => HDG.out _ e.symm (by have h9 := HGB.out; omega))).far (p := ⟨gp, 0, none⟩) (by show w.heap.size ≠ gp; omega) (.slice D6 (i + 1) c6))
            have hW6 : Below w.heap.size w (w6.setCell ⟨gp, 0, none⟩ (.slice D6 (i + 1) c6)) := bel_set (bel_grown (bel_trans HBW1.out HWU.out) hg2 (fun g hg => by have h3 := (own_lt HO.out.own g hg).1; have h9 := HGB.out; omega)) (by show w.heap.size ≤ gp; omega)
            exact ⟨⟨i + 1, c6, D6, _, by omega, by go_num, hC6, hP2, hX6, hR6, hW6, by have h3 := HSZ.out; have h4 := HWU.out.size; have h5 := hg2.size; simp; omega⟩, by simp [intOf]; omega⟩
        · have hik1 : ¬ (i : Int) < (kh : Int) := by omega
          have hfree : hintP h (plV W rows f) = plV W rows f := by
            refine hintP_free ?_
            have h3 := HHF.out
            rw [← h3, List.getElem?_append_right (by rw [HLL.out]; omega)] at hh
            obtain ⟨hj, hje⟩ := List.getElem?_eq_some_iff.1 hh
            rw [List.getElem_replicate] at hje
            omega
          rw [hfree] at HST
          clear hfree HNI hh
          have HB5 := Lib.hid (HGP.out.below HWU.out)
          have d5 : u2.cell? ⟨gp, 0, none⟩ = some (.slice D1 i ci) := by simpa using HB5.out.cell 0
          have l5 : gp < u2.heap.size := HB5.out.lt
          have f5 : u2.frozen? ⟨gp, 0, none⟩ = false := HB5.out.frozen 0
          clear b0 b1 hgw
          go_wp2_with (at_builtin; go_must (refine app_S _ rfl _ _ rfl w2.heap.size _ _ _ h1 rfl ((HO.out.below HWU.out).own.alloc _) _ _ _ [(E, q2, c2)] rfl (rd_newS _ _ _) rfl (by omega) (by have h3 := HWU.out.size; have h4 := HSZ.out; simp; omega) ?_); intro D6 c6 w6 ho6 hg6 hat6; have HO6 := Lib.hid ho6; have HG6 := Lib.hid hg6; have HAT6 := Lib.hid hat6; clear ho6 hg6 hat6; have HB6 := Lib.hid ((HB5.out.alloc (.cells #[.slice E q2 c2] 22)).grown HG6.out (fun e => HDG.out gp e.symm HGB.out)); have d6 : w6.cell? ⟨gp, 0, none⟩ = some (.slice D1 i ci) := (by simpa using HB6.out.cell 0); have f6 : w6.frozen? ⟨gp, 0, none⟩ = false := HB6.out.frozen 0; have l6 : gp < w6.heap.size := HB6.out.lt)
          have hg2 : u2.grownBy w6 (ob D1) := ⟨HG6.out.os, HG6.out.tape, HG6.out.output, by have h3 := HG6.out.size; simp at h3; omega, fun k hk hn => (HG6.out.block k (by simp; omega) hn).trans (Below.heap_alloc u2 _ k hk)⟩
          have hP := Own2.pushA (HO.out.below HWU.out) HOE.out (fun g hg => ⟨fun r => by have h3 := (own_lt HO.out.own g r).2; have h4 := HEG.out g hg; omega, fun x hx r => by
            obtain ⟨t, ht, rfl⟩ := List.mem_iff_getElem.1 hx
            have h3 := (own_lt (HO.out.row t ht (HO.out.len ▸ ht)) _ r).2
            have h4 := HEG.out g hg
            omega⟩) HO6.out hg2 (fun g hg => by
              rcases HAT6.out with e | e
              · exact .inl (e ▸ hg)
              · rw [e] at hg
                injection hg with hg
                rw [World.size_alloc] at hg
                exact .inr (by omega))
          have hP2 := hP.set_far (b := gp) (.slice D6 (i + 1) c6) HGB.out
          rw [← HST.out] at hP2
          have hC6 : Blk (w6.setCell ⟨gp, 0, none⟩ (.slice D6 (i + 1) c6)) gp 110 #[.slice D6 (i + 1) c6, .func (.func 117) #[] #[.pointer (some ⟨w.heap.size + 1, 0, none⟩)]] := HB6.out.set_ 0 _
          have hX6 := (((HBX.out.below HWU.out).grown hg2 (fun e => HDG.out _ e.symm (by have h9 := HGB.out; omega))).far (p := ⟨gp, 0, none⟩) (by show w.heap.size + 1 ≠ gp; omega) (.slice D6 (i + 1) c6))
          have hR6 := (((HBR.out.below HWU.out).grown hg2 (fun e => HDG.out _ e.symm (by have h9 := HGB.out; omega))).far (p := ⟨gp, 0, none⟩) (by show w.heap.size ≠ gp; omega) (.slice D6 (i + 1) c6))
          have hW6 : Below w.heap.size w (w6.setCell ⟨gp, 0, none⟩ (.slice D6 (i + 1) c6)) := bel_set (bel_grown (bel_trans HBW1.out HWU.out) hg2 (fun g hg => by have h3 := (own_lt HO.out.own g hg).1; have h9 := HGB.out; omega)) (by show w.heap.size ≤ gp; omega)
          exact ⟨⟨i + 1, c6, D6, _, by omega, by go_num, hC6, hP2, hX6, hR6, hW6, by have h3 := HSZ.out; have h4 := HWU.out.size; have h5 := hg2.size; simp; omega⟩, by simp [intOf]; omega⟩
      · obtain rfl : i = q := by omega
        have hi1 : ¬ (i : Int) < (i : Int) := by omega
        have hZt : Z.take i = Z := List.take_of_length_le (by rw [HZL.out]; exact Nat.le_refl _)
        rw [hZt] at HO
        have hcap : i ≤ ci := by
          rcases HO.out.own.2 with ⟨_, h3⟩ | ⟨g, cap, cur, hv3, _, _, h3, _⟩
          · omega
          · injection hv3 with _ _ h4
            omega
        have hF : ∀ p ∈ Z, Msk 36 p ∧ p.length ≤ 1048576 := fun p hp => by
          rw [← HZ.out] at hp
          obtain ⟨t, ht, rfl⟩ := List.mem_iff_getElem.1 hp
          rw [List.getElem_zipWith]
          obtain ⟨h4, h5⟩ := puz_most (W := W) (rows := rows) (P := P) _ (List.getElem_mem (show t < (placesV W rows P).length by rw [List.length_zipWith] at ht; omega))
          exact ⟨hintP_msk h4, Nat.le_trans hintP_len h5⟩
        go_wp2_with fail
        refine (mask_i W A n c rows _ (HR.out.below HBW1.out) HL.out HV.out).mono ?_
        rintro e w5 ⟨rfl, hb5⟩
        have hsz5 := hb5.size
        have hok : PzOk w5.heap.size (w.heap.size + 1) gp i ci D1 h1 Z w5 := by
          have h9 := HGB.out
          have h8 := HSZ.out
          refine ⟨HGP.out.below hb5, (Rd2I.of_own HO.out).below hb5, ⟨by omega, by omega⟩, by omega, fun g hg => ?_, fun x hx g hg => ?_⟩
          · have h3 := own_lt HO.out.own g hg
            omega
          · obtain ⟨t, ht, rfl⟩ := List.mem_iff_getElem.1 hx
            have h3 := own_lt (HO.out.row t ht (HO.out.len ▸ ht)) g hg
            omega
        have hS := solve_i w5.heap.size (w.heap.size + 1) gp i ci D1 h1 Z hq1 hq5 hcap hF i 0 (by omega) (maskV W rows) none 0 [] none 0 0 [] [] w5 (mask36 W rows) (own_nil _ _ _ _) (fun g hg => by simp [ob] at hg) hok (HBX.out.below hb5) (Own2.nil _ _) (by omega) (Nat.le_refl _)
        rw [List.drop_zero, show ([] : List (List Int)) ++ preM [] (solA Z (maskV W rows)) = solA Z (maskV W rows) from by simp [preM], ← HZ.out, ← HV2.out] at hS
        obtain ⟨G, hG⟩ : ∃ G, puzV W rows P hf = G := ⟨_, rfl⟩
        have hbw5 := bel_trans HBW1.out hb5
        have HB5 := Lib.hid hbw5
        rw [hG] at hS
        have HS := Lib.hid hS
        have HG := Lib.hid hG
        clear hS hok hbw5 hb5 b0 b1 hgw hF hcap hZt hG hsz5
        go_wp2_with fail
        refine Calls.mono HS.out ?_
        rintro e w6 ⟨rfl, o6, co6, ho6, hbx6, hO6, hfr6⟩
        have c6 : w6.cell? ⟨w.heap.size + 1, 0, none⟩ = some (.slice o6 G.length co6) := by simpa using hbx6.cell 0
        have l6 := hbx6.lt
        have HO6 := Lib.hid hO6
        have HFR6 := Lib.hid hfr6
        clear hbx6 hO6 hfr6 HS
        go_wp2_with fail
        go_ret
        exact ⟨_, _, _, _, rfl, by rw [HG.out]; exact HO6.out.mono HB5.out.size, ⟨HFR6.out.os.trans HB5.out.os, HFR6.out.tape.trans HB5.out.tape, HFR6.out.output.trans HB5.out.output, Nat.le_trans HB5.out.size HFR6.out.size, fun k hk => (HFR6.out.block k (Nat.lt_of_lt_of_le hk HB5.out.size) (by omega) (by simp [ob])).trans (HB5.out.block k hk)⟩⟩
end Go.Proofs.YtglilkneipfheaaGreat

/- Puzzles: solutions, how many, with a hint: both sides. -/
namespace Go.Proofs.YtglilkneipfheaaGreat
open Go.RowKit
set_option linter.unusedVariables false
attribute [local go_sem ↓] Go.wp_at_zero Go.wp_at_succ
theorem puz_reg {W : Int} {rows : List Int} {P : List (List C)} (h : (isReg W rows && pcs P) = true) : isReg W rows = true ∧ pcs P = true := by rwa [Bool.and_eq_true] at h
/-- How many solutions agree with a hint. -/
def cwhV (W : Int) (rows : List Int) (P : List (List C)) (hint : List Int) : Int := if ((isReg W rows && pcs P) && hint.length == P.length) = true then ((puzV W rows P hint).length : Nat) else -1
/-- The solutions of a puzzle. -/
def psV (W : Int) (rows : List Int) (P : List (List C)) : List (List Int) := if (isReg W rows && pcs P) = true then puzV W rows P (List.replicate P.length (-1)) else []
def csV (W : Int) (rows : List Int) (P : List (List C)) : Int := if (isReg W rows && pcs P) = true then ((psV W rows P).length : Nat) else -1
theorem psV_len (W : Int) (rows : List Int) (P : List (List C)) : (psV W rows P).length ≤ 300 := by
  unfold psV
  split
  · exact puzV_len _ _ _ _
  · simp
theorem total_bound {m : Nat} : ∀ F : List (List Int), (∀ f ∈ F, f.length ≤ m) → total F ≤ F.length * m
  | [], _ => by simp [total]
  | f :: t, h => by
    have h1 := total_bound t fun g hg => h g (List.mem_cons_of_mem _ hg)
    have h2 := h f (List.mem_cons_self ..)
    rw [show total (f :: t) = f.length + total t from by simp [total], List.length_cons, Nat.succ_mul]
    omega
theorem psV_tot (W : Int) (rows : List Int) (P : List (List C)) : total (psV W rows P) ≤ 1500 := by
  by_cases h : (isReg W rows && pcs P) = true
  · have hq := (pcs_small (puz_reg h).2).1
    have hl := psV_len W rows P
    have h1 := total_bound (m := 5) (psV W rows P) (fun f hf => by
      unfold psV at hf
      rw [if_pos h] at hf
      unfold puzV at hf
      split at hf
      · rw [sol_len _ _ f (List.mem_of_mem_take hf), List.length_zipWith, List.length_replicate]
        omega
      · simp at hf)
    have h2 : (psV W rows P).length * 5 ≤ 300 * 5 := Nat.mul_le_mul_right 5 hl
    omega
  · unfold psV
    rw [if_neg h]
    simp [total]
/-- Slices of slices of the call's own, beside a Bool. -/
def RetO2b (w : World) (F : List (List Int)) (bb : Bool) (e : Ending) (w' : World) : Prop :=
  ∃ A n c hs, e = .returned (.tuple #[.slice A n c, .bool bb]) ∧ Own2 w.heap.size w' A n c hs F ∧ Below w.heap.size w w'
set_option maxRecDepth 100000 in
set_option maxHeartbeats 1600000 in
theorem CountWithHint_i (W : Int) (A B D : Option Addr) (n c q cb k cd : Nat) (rows hint : List Int) (hs : List H) (P : List (List C)) (w : World) (hr : Rd w A (vI rows)) (hl : rows.length = n) (hp : RdP w B q hs P) (hq : q ≤ 1048576) (hm : totC P ≤ 1048576) (hrd : Rd w D (vI hint)) (hll : hint.length = k) (hk : k ≤ 1048576) :
    Calls Tryz.prog 15 #[.agg #[.int .i64 W, .slice A n c], .slice B q cb, .slice D k cd] w (Ret w (.int .i64 (cwhV W rows P hint))) := by
  have HL := Lib.hid hl
  have HR := Lib.hid (hr.alloc (.cells #[.int .i64 W, .slice A n c] 29))
  have HP := Lib.hid (hp.alloc (.cells #[.int .i64 W, .slice A n c] 29))
  have HLL := Lib.hid hll
  have HRD := Lib.hid (hrd.alloc (.cells #[.int .i64 W, .slice A n c] 29))
  have HB1 := Lib.hid (Blk.new w 29 #[.int .i64 W, .slice A n c])
  have hbw1 : Below w.heap.size w (w.alloc (.cells #[.int .i64 W, .slice A n c] 29)) := bel_alloc (Below.refl _ _) _
  have HM := Lib.hid hm
  have HPF := Lib.hid hp.flen
  clear hl hr hp hm hll hrd
  cases hpv : (isReg W rows && pcs P) with
  | false =>
    have HV : Hid (cwhV W rows P hint = -1) := by show _ = _; unfold cwhV; rw [hpv]; rfl
    have HPV := Lib.hid hpv
    clear hpv
    go_enter Tryz.func15, Tryz.ntmps15
    go_wp2_with fail
    refine (isProblem_i W A B n c q cb rows hs P _ HR.out HL.out HP.out hq HM.out).mono ?_
    rw [HPV.out]
    rintro e w1 ⟨rfl, hb1⟩
    go_wp2_with fail
    go_ret
    exact ⟨by rw [HV.out]; rfl, bel_trans hbw1 hb1⟩
  | true =>
    obtain ⟨hvr, hpc⟩ := puz_reg hpv
    have HVR := Lib.hid hvr
    have HPC := Lib.hid hpc
    have HPV := Lib.hid hpv
    by_cases hkq : k = q
    · subst hkq
      have HV : Hid (cwhV W rows P hint = ((puzV W rows P hint).length : Nat)) := by show _ = _; unfold cwhV; rw [hpv, HLL.out, HPF.out]; simp
      have hkk : ((k : Int) != (k : Int)) = false := by simp
      clear hpv hvr hpc
      go_enter Tryz.func15, Tryz.ntmps15
      go_wp2_with fail
      refine (isProblem_i W A B n c k cb rows hs P _ HR.out HL.out HP.out hq HM.out).mono ?_
      rw [HPV.out]
      rintro e w1 ⟨rfl, hb1⟩
      have HB := Lib.hid hb1
      clear hb1
      have hB := HB1.out.below HB.out
      have b0 : w1.cell? ⟨w.heap.size, 0, none⟩ = some (.int .i64 W) := by simpa using hB.cell 0
      have b1 : w1.cell? ⟨w.heap.size, 1, none⟩ = some (.slice A n c) := by simpa using hB.cell 1
      have hgw := hB.lt
      clear hB
      go_wp2_with fail
      have hS := solutions_i W A B D n c k cb k cd rows hint hs P w1 (HR.out.below HB.out) HL.out HVR.out (HP.out.below HB.out) HPC.out (HRD.out.below HB.out) HLL.out (.inr rfl)
      rw [Nat.sub_self, List.replicate_zero, List.append_nil] at hS
      refine Calls.mono hS ?_
      rintro e w2 ⟨E, u, cu, hE, rfl, hOE, hb2⟩
      have hu := hOE.flen
      have HU := Lib.hid hu
      have HB2 := Lib.hid hb2
      clear hS hOE hu hb2 b0 b1 hgw
      go_wp2_with fail
      go_ret
      exact ⟨by rw [HV.out, HU.out]; rfl, bel_trans (bel_trans hbw1 HB.out) HB2.out⟩
    · have HV : Hid (cwhV W rows P hint = -1) := by show _ = _; unfold cwhV; rw [if_neg]; rw [HLL.out, HPF.out]; simp [hkq]
      have hkk : ((k : Int) != (q : Int)) = true := by simp; omega
      clear hpv hvr hpc hkq
      go_enter Tryz.func15, Tryz.ntmps15
      go_wp2_with fail
      refine (isProblem_i W A B n c q cb rows hs P _ HR.out HL.out HP.out hq HM.out).mono ?_
      rw [HPV.out]
      rintro e w1 ⟨rfl, hb1⟩
      go_wp2_with fail
      go_ret
      exact ⟨by rw [HV.out]; rfl, bel_trans hbw1 hb1⟩
set_option maxRecDepth 100000 in
set_option maxHeartbeats 1600000 in
theorem CountWithHint_s (W : Int) (A B D : Option Addr) (n c q cb k cd : Nat) (rows hint : List Int) (hs : List H) (P : List (List C)) (w : World) (hr : Rd w A (vI rows)) (hl : rows.length = n) (hp : RdP w B q hs P) (hq : q ≤ 1048576) (hm : totC P ≤ 1048576) (hrd : Rd w D (vI hint)) (hll : hint.length = k) (hk : k ≤ 1048576) :
    Calls Tryz.prog 11 #[.agg #[.int .i64 W, .slice A n c], .slice B q cb, .slice D k cd] w (Ret w (.int .i64 (cwhV W rows P hint))) := by
  have HL := Lib.hid hl
  have HR := Lib.hid (hr.alloc (.cells #[.int .i64 W, .slice A n c] 29))
  have HP := Lib.hid (hp.alloc (.cells #[.int .i64 W, .slice A n c] 29))
  have HLL := Lib.hid hll
  have HRD := Lib.hid (hrd.alloc (.cells #[.int .i64 W, .slice A n c] 29))
  have HB1 := Lib.hid (Blk.new w 29 #[.int .i64 W, .slice A n c])
  have hbw1 : Below w.heap.size w (w.alloc (.cells #[.int .i64 W, .slice A n c] 29)) := bel_alloc (Below.refl _ _) _
  have HM := Lib.hid hm
  have HPF := Lib.hid hp.flen
  clear hl hr hp hm hll hrd
  cases hv : isReg W rows with
  | false =>
    have HV : Hid (cwhV W rows P hint = -1) := by show _ = _; unfold cwhV; rw [hv]; rfl
    have HVR := Lib.hid hv
    clear hv
    go_enter Tryz.func11, Tryz.ntmps11
    go_wp2_with fail
    refine (IsRegion_s _ _ _ _ rows _ HR.out HL.out).mono ?_
    rw [HVR.out]
    rintro e w1 ⟨rfl, hb1⟩
    go_wp2_with fail
    go_ret
    exact ⟨by rw [HV.out]; rfl, bel_trans hbw1 hb1⟩
  | true =>
    have HVR := Lib.hid hv
    cases hpc : pcs P with
    | false =>
      have HV : Hid (cwhV W rows P hint = -1) := by show _ = _; unfold cwhV; rw [hv, hpc]; rfl
      have HPC := Lib.hid hpc
      clear hv hpc
      go_enter Tryz.func11, Tryz.ntmps11
      go_wp2_with fail
      refine (IsRegion_s _ _ _ _ rows _ HR.out HL.out).mono ?_
      rw [HVR.out]
      rintro e w1 ⟨rfl, hb1⟩
      go_wp2_with fail
      refine (ArePieces_s B q cb hs P _ (HP.out.below hb1) hq HM.out).mono ?_
      rw [HPC.out]
      rintro e w2 ⟨rfl, hb2⟩
      go_wp2_with fail
      go_ret
      exact ⟨by rw [HV.out]; rfl, bel_trans hbw1 (bel_trans hb1 hb2)⟩
    | true =>
      have HPC := Lib.hid hpc
      by_cases hkq : k = q
      · subst hkq
        have HV : Hid (cwhV W rows P hint = ((puzV W rows P hint).length : Nat)) := by show _ = _; unfold cwhV; rw [hv, hpc, HLL.out, HPF.out]; simp
        have hkk : ((k : Int) != (k : Int)) = false := by simp
        clear hv hpc
        go_enter Tryz.func11, Tryz.ntmps11
        go_wp2_with fail
        refine (IsRegion_s _ _ _ _ rows _ HR.out HL.out).mono ?_
        rw [HVR.out]
        rintro e w1 ⟨rfl, hb1⟩
        go_wp2_with fail
        refine (ArePieces_s B k cb hs P _ (HP.out.below hb1) hq HM.out).mono ?_
        rw [HPC.out]
        rintro e w2 ⟨rfl, hb2⟩
        have HB := Lib.hid (bel_trans hb1 hb2)
        clear hb1 hb2
        have hB := HB1.out.below HB.out
        have b0 : w2.cell? ⟨w.heap.size, 0, none⟩ = some (.int .i64 W) := by simpa using hB.cell 0
        have b1 : w2.cell? ⟨w.heap.size, 1, none⟩ = some (.slice A n c) := by simpa using hB.cell 1
        have hgw := hB.lt
        clear hB
        go_wp2_with fail
        have hS := l22All_s W A B D n c k cb cd rows hint hs P w2 (HR.out.below HB.out) HL.out HVR.out (HP.out.below HB.out) HPC.out (HRD.out.below HB.out) HLL.out
        refine Calls.mono hS ?_
        rintro e w3 ⟨E, u, cu, hE, rfl, hOE, hb3⟩
        have hu := hOE.flen
        have HU := Lib.hid hu
        have HB3 := Lib.hid hb3
        clear hS hOE hu hb3 b0 b1 hgw
        go_wp2_with fail
        go_ret
        exact ⟨by rw [HV.out, HU.out]; rfl, bel_trans (bel_trans hbw1 HB.out) HB3.out⟩
      · have HV : Hid (cwhV W rows P hint = -1) := by show _ = _; unfold cwhV; rw [if_neg]; rw [HLL.out, HPF.out]; simp [hkq]
        have hkk : ((k : Int) != (q : Int)) = true := by simp; omega
        clear hv hpc hkq
        go_enter Tryz.func11, Tryz.ntmps11
        go_wp2_with fail
        refine (IsRegion_s _ _ _ _ rows _ HR.out HL.out).mono ?_
        rw [HVR.out]
        rintro e w1 ⟨rfl, hb1⟩
        go_wp2_with fail
        refine (ArePieces_s B q cb hs P _ (HP.out.below hb1) hq HM.out).mono ?_
        rw [HPC.out]
        rintro e w2 ⟨rfl, hb2⟩
        go_wp2_with fail
        go_ret
        exact ⟨by rw [HV.out]; rfl, bel_trans hbw1 (bel_trans hb1 hb2)⟩
set_option maxRecDepth 100000 in
set_option maxHeartbeats 1600000 in
theorem PuzzleSolutions_i (W : Int) (A B : Option Addr) (n c q cb : Nat) (rows : List Int) (hs : List H) (P : List (List C)) (w : World) (hr : Rd w A (vI rows)) (hl : rows.length = n) (hp : RdP w B q hs P) (hq : q ≤ 1048576) (hm : totC P ≤ 1048576) :
    Calls Tryz.prog 22 #[.agg #[.int .i64 W, .slice A n c], .slice B q cb] w (RetO2b w (psV W rows P) (isReg W rows && pcs P)) := by
  have HL := Lib.hid hl
  have HR := Lib.hid (hr.alloc (.cells #[.int .i64 W, .slice A n c] 29))
  have HP := Lib.hid (hp.alloc (.cells #[.int .i64 W, .slice A n c] 29))
  have HB1 := Lib.hid (Blk.new w 29 #[.int .i64 W, .slice A n c])
  have hbw1 : Below w.heap.size w (w.alloc (.cells #[.int .i64 W, .slice A n c] 29)) := bel_alloc (Below.refl _ _) _
  have HM := Lib.hid hm
  have HPF := Lib.hid hp.flen
  clear hl hr hp hm 
  cases hpv : (isReg W rows && pcs P) with
  | false =>
    have HV : Hid (psV W rows P = []) := by show _ = _; unfold psV; rw [hpv]; rfl
    have HPV := Lib.hid hpv
    clear hpv
    go_enter Tryz.func22, Tryz.ntmps22
    go_wp2_with fail
    refine (isProblem_i W A B n c q cb rows hs P _ HR.out HL.out HP.out hq HM.out).mono ?_
    rw [HPV.out]
    rintro e w1 ⟨rfl, hb1⟩
    go_wp2_with fail
    go_ret2
    exact ⟨none, 0, 0, [], rfl, by rw [HV.out]; exact Own2.nil _ _, bel_trans hbw1 hb1⟩
  | true =>
    obtain ⟨hvr, hpc⟩ := puz_reg hpv
    have HVR := Lib.hid hvr
    have HPC := Lib.hid hpc
    have HPV := Lib.hid hpv
    have HV : Hid (psV W rows P = puzV W rows P (List.replicate q (-1))) := by show _ = _; unfold psV; rw [hpv, HPF.out]; rfl
    clear hpv hvr hpc
    go_enter Tryz.func22, Tryz.ntmps22
    go_wp2_with fail
    refine (isProblem_i W A B n c q cb rows hs P _ HR.out HL.out HP.out hq HM.out).mono ?_
    rw [HPV.out]
    rintro e w1 ⟨rfl, hb1⟩
    have HB := Lib.hid hb1
    clear hb1
    have hB := HB1.out.below HB.out
    have b0 : w1.cell? ⟨w.heap.size, 0, none⟩ = some (.int .i64 W) := by simpa using hB.cell 0
    have b1 : w1.cell? ⟨w.heap.size, 1, none⟩ = some (.slice A n c) := by simpa using hB.cell 1
    have hgw := hB.lt
    clear hB
    go_wp2_with fail
    have hS := solutions_i W A B none n c q cb 0 0 rows [] hs P w1 (HR.out.below HB.out) HL.out HVR.out (HP.out.below HB.out) HPC.out Rd.none_ rfl (.inl rfl)
    rw [Nat.sub_zero, List.nil_append, ← HV.out] at hS
    refine Calls.mono hS ?_
    rintro e w2 ⟨E, u, cu, hE, rfl, hOE, hb2⟩
    have HOE := Lib.hid hOE
    have HB2 := Lib.hid hb2
    clear hS hOE hb2 b0 b1 hgw
    go_wp2_with fail
    go_ret2
    exact ⟨_, _, _, _, rfl, HOE.out.mono (by have h1 := hbw1.size; have h2 := HB.out.size; omega), bel_trans (bel_trans hbw1 HB.out) HB2.out⟩
set_option maxRecDepth 100000 in
set_option maxHeartbeats 1600000 in
theorem PuzzleSolutions_s (W : Int) (A B : Option Addr) (n c q cb : Nat) (rows : List Int) (hs : List H) (P : List (List C)) (w : World) (hr : Rd w A (vI rows)) (hl : rows.length = n) (hp : RdP w B q hs P) (hq : q ≤ 1048576) (hm : totC P ≤ 1048576) :
    Calls Tryz.prog 21 #[.agg #[.int .i64 W, .slice A n c], .slice B q cb] w (RetO2b w (psV W rows P) (isReg W rows && pcs P)) := by
  have HL := Lib.hid hl
  have HR := Lib.hid (hr.alloc (.cells #[.int .i64 W, .slice A n c] 29))
  have HP := Lib.hid (hp.alloc (.cells #[.int .i64 W, .slice A n c] 29))
  have HB1 := Lib.hid (Blk.new w 29 #[.int .i64 W, .slice A n c])
  have hbw1 : Below w.heap.size w (w.alloc (.cells #[.int .i64 W, .slice A n c] 29)) := bel_alloc (Below.refl _ _) _
  have HM := Lib.hid hm
  have HPF := Lib.hid hp.flen
  clear hl hr hp hm 
  cases hv : isReg W rows with
  | false =>
    have HV : Hid (psV W rows P = []) := by show _ = _; unfold psV; rw [hv]; rfl
    have HVR := Lib.hid hv
    clear hv
    go_enter Tryz.func21, Tryz.ntmps21
    go_wp2_with fail
    refine (IsRegion_s _ _ _ _ rows _ HR.out HL.out).mono ?_
    rw [HVR.out]
    rintro e w1 ⟨rfl, hb1⟩
    go_wp2_with fail
    go_ret2
    exact ⟨_, _, _, [], rfl, by rw [HV.out]; exact (Own2.none_ (own_new w1 22 1 0 #[] rfl (by simp [maxLen]) (base := w.heap.size) (bel_trans hbw1 hb1).size)), bel_alloc (bel_trans hbw1 hb1) _⟩
  | true =>
    have HVR := Lib.hid hv
    cases hpc : pcs P with
    | false =>
      have HV : Hid (psV W rows P = []) := by show _ = _; unfold psV; rw [hv, hpc]; rfl
      have HPC := Lib.hid hpc
      clear hv hpc
      go_enter Tryz.func21, Tryz.ntmps21
      go_wp2_with fail
      refine (IsRegion_s _ _ _ _ rows _ HR.out HL.out).mono ?_
      rw [HVR.out]
      rintro e w1 ⟨rfl, hb1⟩
      go_wp2_with fail
      refine (ArePieces_s B q cb hs P _ (HP.out.below hb1) hq HM.out).mono ?_
      rw [HPC.out]
      rintro e w2 ⟨rfl, hb2⟩
      go_wp2_with fail
      go_ret2
      exact ⟨_, _, _, [], rfl, by rw [HV.out]; exact (Own2.none_ (own_new w2 22 1 0 #[] rfl (by simp [maxLen]) (base := w.heap.size) (bel_trans hbw1 (bel_trans hb1 hb2)).size)), bel_alloc (bel_trans hbw1 (bel_trans hb1 hb2)) _⟩
    | true =>
      have HPC := Lib.hid hpc
      have HV : Hid (psV W rows P = puzV W rows P (List.replicate q (-1))) := by show _ = _; unfold psV; rw [hv, hpc, HPF.out]; rfl
      clear hv hpc
      go_enter Tryz.func21, Tryz.ntmps21
      go_wp2_with fail
      refine (IsRegion_s _ _ _ _ rows _ HR.out HL.out).mono ?_
      rw [HVR.out]
      rintro e w1 ⟨rfl, hb1⟩
      go_wp2_with fail
      refine (ArePieces_s B q cb hs P _ (HP.out.below hb1) hq HM.out).mono ?_
      rw [HPC.out]
      rintro e w2 ⟨rfl, hb2⟩
      have HB := Lib.hid (bel_trans hb1 hb2)
      clear hb1 hb2
      have hB := HB1.out.below HB.out
      have b0 : w2.cell? ⟨w.heap.size, 0, none⟩ = some (.int .i64 W) := by simpa using hB.cell 0
      have b1 : w2.cell? ⟨w.heap.size, 1, none⟩ = some (.slice A n c) := by simpa using hB.cell 1
      have hgw := hB.lt
      clear hB
      go_wp2_with fail
      (refine wp_region_tailN (C := ExC w2) 4 (by kernel_rfl) (by kernel_rfl) (ExC.drawn _) (fun _ _ h k => ExC.ext h k) ?_; simp only [List.take_succ_cons, List.take_zero, List.drop_succ_cons, List.drop_zero]; (repeat (first | (refine headSkip (by rfl) rfl ?_; simp only [List.setIfInBounds_toArray, List.set_cons_zero, List.set_cons_succ]) | (refine headV (v := ?_) (by rfl) rfl (fun w' hcw => ?_) ?_; rotate_left; ((try dsimp only at hcw); have hbc := hcw.cells; go_simp; first | done | with_reducible rfl | fail); simp only [List.setIfInBounds_toArray, List.set_cons_zero, List.set_cons_succ]))); unfold wpHead)
      refine tailK (by rfl) (fun u1 hc1 he1 K hK => ?_)
      go_simp
      refine (l22None_s q u1 hq).mono ?_
      rintro e u2 ⟨E, q2, c2, rfl, hOE, hbE⟩
      obtain rfl : q2 = q := by have h3 := own_len hOE; rw [vI_length, List.length_replicate] at h3; omega
      refine hK _ _ (bel_trans hc1 hbE) ?_
      clear hK K
      refine tailK (by rfl) (fun u3 hc3 he3 K hK => ?_)
      go_simp
      have hS := l22All_s W A B E n c q2 cb c2 rows (List.replicate q2 (-1)) hs P u3 ((HR.out.below HB.out).below hc3) HL.out HVR.out ((HP.out.below HB.out).below hc3) HPC.out ((Rd.of_own hOE).below he3) (List.length_replicate ..)
      rw [← HV.out] at hS
      refine Calls.mono hS ?_
      rintro e u4 ⟨E4, q4, c4, h4, rfl, hO4, hb4⟩
      refine hK _ _ (bel_trans hc3 hb4) ?_
      clear hK K
      (refine tailK (by rfl) (fun u5 hc5 he5 K hK => ?_); go_simp; refine hK _ _ (hc5) ?_; clear hK K)
      (refine tailK (by rfl) (fun u6 hc6 he6 K hK => ?_); go_simp; refine hK _ _ (hc6) ?_; clear hK K)
      (refine fun u7 hc7 he7 => NoPanic.normal ?_)
      have HO7 := Lib.hid (((hO4.below he5).below he6).below he7)
      have hsz : w.heap.size ≤ u3.heap.size := by have h1 := hbw1.size; have h2 := HB.out.size; have h3 := hc3.size; omega
      have HC7 := Lib.hid hc7
      clear hS hO4 hOE hc1 he1 hbE hc3 he3 hb4 hc5 he5 hc6 he6 hc7 he7 b0 b1 hgw
      go_wp2_with fail
      go_ret2
      exact ⟨_, _, _, _, rfl, HO7.out.mono hsz, bel_trans (bel_trans hbw1 HB.out) HC7.out⟩
set_option maxRecDepth 100000 in
set_option maxHeartbeats 1600000 in
theorem CountSolutions_i (W : Int) (A B : Option Addr) (n c q cb : Nat) (rows : List Int) (hs : List H) (P : List (List C)) (w : World) (hr : Rd w A (vI rows)) (hl : rows.length = n) (hp : RdP w B q hs P) (hq : q ≤ 1048576) (hm : totC P ≤ 1048576) :
    Calls Tryz.prog 20 #[.agg #[.int .i64 W, .slice A n c], .slice B q cb] w (Ret w (.int .i64 (csV W rows P))) := by
  have HL := Lib.hid hl
  have HR := Lib.hid (hr.alloc (.cells #[.int .i64 W, .slice A n c] 29))
  have HP := Lib.hid (hp.alloc (.cells #[.int .i64 W, .slice A n c] 29))
  have HB1 := Lib.hid (Blk.new w 29 #[.int .i64 W, .slice A n c])
  have hbw1 : Below w.heap.size w (w.alloc (.cells #[.int .i64 W, .slice A n c] 29)) := bel_alloc (Below.refl _ _) _
  have HM := Lib.hid hm
  have HPF := Lib.hid hp.flen
  clear hl hr hp hm 
  have hb0 : (w.alloc (.cells #[.int .i64 W, .slice A n c] 29)).cell? ⟨w.heap.size, 0, none⟩ = some (.int .i64 W) := by simp
  cases hpv : (isReg W rows && pcs P) with
  | false =>
    have HV : Hid (csV W rows P = -1) := by show _ = _; unfold csV; rw [hpv]; rfl
    have HPV := Lib.hid hpv
    clear hpv
    go_enter Tryz.func20, Tryz.ntmps20
    go_wp2_with fail
    refine (PuzzleSolutions_i W A B n c q cb rows hs P _ HR.out HL.out HP.out hq HM.out).mono ?_
    rw [HPV.out]
    rintro e w1 ⟨E, u, cu, hE, rfl, hOE, hb1⟩
    have HB2 := Lib.hid hb1
    clear hOE hb1 hb0
    go_wp2_with fail
    go_ret
    exact ⟨by rw [HV.out]; rfl, bel_trans hbw1 HB2.out⟩
  | true =>
    have HV : Hid (csV W rows P = ((psV W rows P).length : Nat)) := by show _ = _; unfold csV; rw [hpv]; rfl
    have HPV := Lib.hid hpv
    clear hpv
    go_enter Tryz.func20, Tryz.ntmps20
    go_wp2_with fail
    refine (PuzzleSolutions_i W A B n c q cb rows hs P _ HR.out HL.out HP.out hq HM.out).mono ?_
    rw [HPV.out]
    rintro e w1 ⟨E, u, cu, hE, rfl, hOE, hb1⟩
    have HU := Lib.hid hOE.flen
    have HB2 := Lib.hid hb1
    clear hOE hb1 hb0
    go_wp2_with fail
    go_ret
    exact ⟨by rw [HV.out, HU.out]; rfl, bel_trans hbw1 HB2.out⟩
set_option maxRecDepth 100000 in
set_option maxHeartbeats 1600000 in
theorem CountSolutions_s (W : Int) (A B : Option Addr) (n c q cb : Nat) (rows : List Int) (hs : List H) (P : List (List C)) (w : World) (hr : Rd w A (vI rows)) (hl : rows.length = n) (hp : RdP w B q hs P) (hq : q ≤ 1048576) (hm : totC P ≤ 1048576) :
    Calls Tryz.prog 19 #[.agg #[.int .i64 W, .slice A n c], .slice B q cb] w (Ret w (.int .i64 (csV W rows P))) := by
  have HL := Lib.hid hl
  have HR := Lib.hid (hr.alloc (.cells #[.int .i64 W, .slice A n c] 29))
  have HP := Lib.hid (hp.alloc (.cells #[.int .i64 W, .slice A n c] 29))
  have HB1 := Lib.hid (Blk.new w 29 #[.int .i64 W, .slice A n c])
  have hbw1 : Below w.heap.size w (w.alloc (.cells #[.int .i64 W, .slice A n c] 29)) := bel_alloc (Below.refl _ _) _
  have HM := Lib.hid hm
  have HPF := Lib.hid hp.flen
  clear hl hr hp hm 
  have hb0 : (w.alloc (.cells #[.int .i64 W, .slice A n c] 29)).cell? ⟨w.heap.size, 0, none⟩ = some (.int .i64 W) := by simp
  cases hpv : (isReg W rows && pcs P) with
  | false =>
    have HV : Hid (csV W rows P = -1) := by show _ = _; unfold csV; rw [hpv]; rfl
    have HPV := Lib.hid hpv
    clear hpv
    go_enter Tryz.func19, Tryz.ntmps19
    go_wp2_with fail
    refine (PuzzleSolutions_s W A B n c q cb rows hs P _ HR.out HL.out HP.out hq HM.out).mono ?_
    rw [HPV.out]
    rintro e w1 ⟨E, u, cu, hE, rfl, hOE, hb1⟩
    have HB2 := Lib.hid hb1
    clear hOE hb1 hb0
    go_wp2_with fail
    go_ret
    exact ⟨by rw [HV.out]; rfl, bel_trans hbw1 HB2.out⟩
  | true =>
    have HV : Hid (csV W rows P = ((psV W rows P).length : Nat)) := by show _ = _; unfold csV; rw [hpv]; rfl
    have HPV := Lib.hid hpv
    clear hpv
    go_enter Tryz.func19, Tryz.ntmps19
    go_wp2_with fail
    refine (PuzzleSolutions_s W A B n c q cb rows hs P _ HR.out HL.out HP.out hq HM.out).mono ?_
    rw [HPV.out]
    rintro e w1 ⟨E, u, cu, hE, rfl, hOE, hb1⟩
    have HU := Lib.hid hOE.flen
    have HB2 := Lib.hid hb1
    clear hOE hb1 hb0
    go_wp2_with fail
    go_ret
    exact ⟨by rw [HV.out, HU.out]; rfl, bel_trans hbw1 HB2.out⟩
end Go.Proofs.YtglilkneipfheaaGreat

/- Puzzles: the fewest hints, the reference. -/
namespace Go.Proofs.YtglilkneipfheaaGreat
open Go.RowKit
set_option linter.unusedVariables false
attribute [local go_sem ↓] Go.wp_at_zero Go.wp_at_succ
theorem popN_snocF (n x : Nat) : popN (n + 1) x = popN n x + (if x.testBit n then 1 else 0) := by
  unfold popN
  rw [List.range_succ, List.countP_append, List.countP_singleton]
theorem hint_put (l : List Int) (s n i : Nat) (v : Int) (hi : i < n) (hv : v = if s.testBit i then l.getD i 0 else -1) : (hintS l s i ++ List.replicate (n - i) (-1)).set i v = hintS l s (i + 1) ++ List.replicate (n - (i + 1)) (-1) := by
  rw [List.set_append_right _ _ (by rw [hintS_len]; omega), hintS_len, Nat.sub_self, show n - i = (n - (i + 1)) + 1 by omega, List.replicate_succ, List.set_cons_zero]
  show _ = (hintS l s i ++ [_]) ++ _
  rw [← hv, List.append_assoc]
  rfl
theorem hint_stay (l : List Int) (s n i : Nat) (hi : i < n) (hv : s.testBit i = false) : hintS l s i ++ List.replicate (n - i) (-1) = hintS l s (i + 1) ++ List.replicate (n - (i + 1)) (-1) := by
  show _ = (hintS l s i ++ [_]) ++ _
  rw [hv, show n - i = (n - (i + 1)) + 1 by omega, List.replicate_succ, List.append_assoc]
  rfl
noncomputable def fhIn : Code := ((Tryz.f28.body.map loopsIn).getD []).getD 1 .skip
set_option maxRecDepth 100000 in
set_option maxHeartbeats 1600000 in
theorem fhInner {Q : Exit → Act → World → Prop} {s0 s1 s3 s4 s5 s6 s7 s8 s9 s14 s15 s16 s17 s18 s19 s20 s21 s22 s23 s24 s25 s26 s27 s28 s29 s30 s31 s32 s33 s34 s35 s36 s37 s38 s39 s40 s41 s42 s43 s44 s45 s46 s47 s48 s49 s50 s51 s52 s53 s54 s55 s56 s57 s58 s59 s60 s61 s62 s63 s64 s65 s66 s67 s68 : Value} {s n base gH cH cd : Nat} {D : Option Addr} {l : List Int} {w : World}
    (hs : s < 2 ^ 36) (hn : n ≤ 36) (hl : l.length = n) (hD : Rd w D (vI l)) (hDg : ∀ g, ob D = some g → g ≠ gH) (hO : w.ownsRow base 3 1 (.slice (some ⟨gH, 0, none⟩) n cH) n (vI (List.replicate n (-1))))
    (hexit : ∀ (v35 v36 v37 v38 v39 v40 v41 v42 v43 v44 v45 v46 v47 v48 v49 v50 v51 v52 v53 v54 : Value) (w3 : World), w3.ownsRow base 3 1 (.slice (some ⟨gH, 0, none⟩) n cH) n (vI (hintS l s n)) → w.grownBy w3 (some gH) → Q (.exit 2) ⟨List.toArray (s0 :: s1 :: (.slice D n cd) :: s3 :: s4 :: s5 :: s6 :: s7 :: s8 :: s9 :: (.int .i64 (s : Int)) :: (.slice (some ⟨gH, 0, none⟩) n cH) :: (.int .i64 (popN n s : Nat)) :: (.int .i64 (n : Int)) :: s14 :: s15 :: s16 :: s17 :: s18 :: s19 :: s20 :: s21 :: s22 :: s23 :: s24 :: s25 :: s26 :: s27 :: s28 :: s29 :: s30 :: s31 :: s32 :: s33 :: s34 :: v35 :: v36 :: v37 :: v38 :: v39 :: v40 :: v41 :: v42 :: v43 :: v44 :: v45 :: v46 :: v47 :: v48 :: v49 :: v50 :: v51 :: v52 :: v53 :: v54 :: s55 :: s56 :: s57 :: s58 :: s59 :: s60 :: s61 :: s62 :: s63 :: s64 :: s65 :: s66 :: s67 :: s68 :: []), []⟩ w3) :
    Code.wp Tryz.prog (Code.loop fhIn) Q ⟨List.toArray (s0 :: s1 :: (.slice D n cd) :: s3 :: s4 :: s5 :: s6 :: s7 :: s8 :: s9 :: (.int .i64 (s : Int)) :: (.slice (some ⟨gH, 0, none⟩) n cH) :: (.int .i64 0) :: (.int .i64 0) :: s14 :: s15 :: s16 :: s17 :: s18 :: s19 :: s20 :: s21 :: s22 :: s23 :: s24 :: s25 :: s26 :: s27 :: s28 :: s29 :: s30 :: s31 :: s32 :: s33 :: s34 :: s35 :: s36 :: s37 :: s38 :: s39 :: s40 :: s41 :: s42 :: s43 :: s44 :: s45 :: s46 :: s47 :: s48 :: s49 :: s50 :: s51 :: s52 :: s53 :: s54 :: s55 :: s56 :: s57 :: s58 :: s59 :: s60 :: s61 :: s62 :: s63 :: s64 :: s65 :: s66 :: s67 :: s68 :: []), []⟩ w := by
  have HD := Lib.hid hD
  have HDG := Lib.hid hDg
  have HL := Lib.hid hl
  have HO0 := Lib.hid hO
  have HX := Lib.hid @hexit
  clear hD hDg hl hO hexit
  conv => arg 2; arg 1; whnf
  go_loopw [13, 12] (fun e13 e12 wr => ∃ (i z : Nat), i ≤ n ∧ e13 = .int .i64 i ∧ e12 = .int .i64 (z : Int) ∧ z = popN i s ∧ z ≤ i ∧ wr.ownsRow base 3 1 (.slice (some ⟨gH, 0, none⟩) n cH) n (vI (hintS l s i ++ List.replicate (n - i) (-1))) ∧ w.grownBy wr (some gH)) (fun e13 _ _ => n - (intOf e13).toNat)
  case atStart => exact ⟨0, 0, Nat.zero_le _, rfl, rfl, rfl, Nat.le_refl _, by simpa [hintS] using HO0.out, World.grownBy.refl _ _⟩
  case round =>
    clear HO0
    obtain ⟨i, z, hi, rfl, rfl, hz, hzi, hO, hg⟩ := hrel
    have HZ := Lib.hid hz
    have HG := Lib.hid hg
    clear hz hg
    by_cases hlt : i < n
    · have hi0 : (0 : Int) ≤ (i : Int) := by omega
      have hi1 : (i : Int) < (n : Int) := by omega
      have hi64 : (i : Int) ≤ 64 := by omega
      have ei : IntKind.i64.wrap (i : Int) = (i : Int) := Go.IntWalk.i64_in _ (by omega)
      have hil : i < l.length := by rw [HL.out]; exact hlt
      have hbit := bit_testP s i (by omega)
      obtain ⟨d, hd⟩ : ∃ d, s / 2 ^ i = d := ⟨_, rfl⟩
      have hdI : (s : Int) / 2 ^ i = (d : Int) := by rw [← hd]; simp
      rw [hdI] at hbit
      have hsn := popN_snocF i s
      rw [← HZ.out] at hsn
      clear hd
      cases hbt : s.testBit i with
      | false =>
        rw [hbt] at hbit hsn
        simp only [Bool.false_eq_true, if_false, Nat.add_zero] at hsn
        have hst := hint_stay l s n i hlt hbt
        rw [hst] at hO
        have HO := Lib.hid hO
        have HSN := Lib.hid hsn
        clear hst hsn hbt hO
        go_wp2_with fail
        exact ⟨⟨i + 1, z, by omega, by go_num, rfl, HSN.out.symm, by omega, HO.out, HG.out⟩, by simp [intOf]; omega⟩
      | true =>
        rw [hbt] at hbit hsn
        simp only [if_true] at hsn
        obtain ⟨g, off, hDe, hg1, d1⟩ := RdI.at_ (HD.out.grown HG.out (fun g e r => by injection r with r; exact HDG.out g e r)) hil
        have hjl : i < (hintS l s i ++ List.replicate (n - i) (-1)).length := by rw [List.length_append, hintS_len, List.length_replicate]; omega
        have c1 := hO.cellAt i (by omega)
        rw [show (vI (hintS l s i ++ List.replicate (n - i) (-1)))[i]? = some (.int .i64 (hintS l s i ++ List.replicate (n - i) (-1))[i]) from by simp only [vI, List.getElem?_map, List.getElem?_eq_getElem hjl, Option.map_some]] at c1
        generalize (hintS l s i ++ List.replicate (n - i) (-1))[i] = zz at c1
        have f1 := hO.frozenAt i
        have hgw : gH < wr.heap.size := (own_lt hO gH rfl).2
        have hst := (hO.stored i (.int .i64 l[i])).1
        rw [show (vI (hintS l s i ++ List.replicate (n - i) (-1))).set i (.int .i64 l[i]) = vI (hintS l s (i + 1) ++ List.replicate (n - (i + 1)) (-1)) from by
          rw [← hint_put l s n i l[i] hlt (by rw [hbt, if_pos rfl, List.getD_eq_getElem?_getD, List.getElem?_eq_getElem hil]; rfl)]
          simp [vI, List.map_set]] at hst
        obtain ⟨v, hv⟩ : ∃ v, l[i] = v := ⟨_, rfl⟩
        rw [hv] at hst d1
        have HST := Lib.hid hst
        have HSN := Lib.hid hsn
        have HG2 := Lib.hid (grown_set (p := ⟨gH, i, none⟩) HG.out rfl (.int .i64 v))
        subst hDe
        clear hst hsn hbt hO hv hjl
        go_wp2_with fail
        exact ⟨⟨i + 1, z + 1, by omega, by go_num, by go_num, HSN.out.symm, by omega, HST.out, HG2.out⟩, by simp [intOf]; omega⟩
    · obtain rfl : i = n := by omega
      have hi1 : ¬ (i : Int) < (i : Int) := by omega
      rw [Nat.sub_self, List.replicate_zero, List.append_nil] at hO
      have HO := Lib.hid hO
      have hz := HZ.out
      subst hz
      clear hO HZ
      go_wp2_with fail
      exact HX.out _ _ _ _ _ _ _ _ _ _ _ _ _ _ _ _ _ _ _ _ _ HO.out HG.out
theorem hb3g {w w1 w2 : World} {g : Nat} (h : Below w.heap.size w w1) (k : w1.grownBy w2 (some g)) (hg : w.heap.size ≤ g) : Below w.heap.size w w2 :=
  h.grown k h.size (fun g' e => by injection e with e; omega)
set_option maxRecDepth 100000 in
set_option maxHeartbeats 3200000 in
theorem FewestHints_s (W : Int) (A B D : Option Addr) (n c q cb k cd : Nat) (rows l : List Int) (hs : List H) (P : List (List C)) (w : World) (hr : Rd w A (vI rows)) (hl : rows.length = n) (hp : RdP w B q hs P) (hq : q ≤ 1048576) (hm : totC P ≤ 1048576) (hrd : Rd w D (vI l)) (hll : l.length = k) (hk : k ≤ 1048576) :
    Calls Tryz.prog 28 #[.agg #[.int .i64 W, .slice A n c], .slice B q cb, .slice D k cd] w (RetS2 w 3 1 (vI (fewV W rows P l)) (.bool (solV W rows P l))) := by
  have HL := Lib.hid hl
  have HR := Lib.hid (hr.alloc (.cells #[.int .i64 W, .slice A n c] 29))
  have HP := Lib.hid (hp.alloc (.cells #[.int .i64 W, .slice A n c] 29))
  have HLL := Lib.hid hll
  have HRD := Lib.hid (hrd.alloc (.cells #[.int .i64 W, .slice A n c] 29))
  have HB1 := Lib.hid (Blk.new w 29 #[.int .i64 W, .slice A n c])
  have hbw1 : Below w.heap.size w (w.alloc (.cells #[.int .i64 W, .slice A n c] 29)) := bel_alloc (Below.refl _ _) _
  have HM := Lib.hid hm
  have HPF := Lib.hid hp.flen
  have hb0 : (w.alloc (.cells #[.int .i64 W, .slice A n c] 29)).cell? ⟨w.heap.size, 0, none⟩ = some (.int .i64 W) := by simp
  clear hl hr hp hm hll hrd
  cases hsv : solV W rows P l with
  | false =>
    have HV : Hid (fewV W rows P l = []) := by show _ = _; unfold fewV; rw [hsv]; rfl
    have HSV := Lib.hid hsv
    clear hsv
    go_enter Tryz.func28, Tryz.ntmps28
    go_wp2_with fail
    refine (IsSolution_s W A B D n c q cb k cd rows l hs P _ HR.out HL.out HP.out hq HM.out HRD.out HLL.out hk).mono ?_
    rw [HSV.out]
    rintro e w1 ⟨rfl, hb1⟩
    have HB := Lib.hid hb1
    clear hb1 hb0
    go_wp2_with fail
    go_ret2
    exact ⟨_, _, _, rfl, by rw [HV.out]; exact own_new w1 3 1 0 #[] rfl (by simp [maxLen]) (bel_trans hbw1 HB.out).size, bel_alloc (bel_trans hbw1 HB.out) _⟩
  | true =>
    have hreg := hsv
    unfold solV at hreg
    simp only [Bool.and_eq_true, beq_iff_eq] at hreg
    obtain ⟨⟨hvr, hpc⟩, hlen, _⟩ := hreg
    have hkq : k = q := by have h1 := HLL.out; have h2 := HPF.out; omega
    have hq5 := (pcs_small hpc).1
    rw [HPF.out] at hq5
    have hq1 : 1 ≤ q := by
      have h3 := hpc
      unfold pcs at h3
      simp only [Bool.and_eq_true, decide_eq_true_eq] at h3
      have h2 := HPF.out
      omega
    subst hkq
    obtain ⟨one, hone⟩ : ∃ one, oneV W rows P l = one := ⟨_, rfl⟩
    obtain ⟨T, hT⟩ : ∃ T : Nat, 2 ^ k = T := ⟨_, rfl⟩
    have hTI : (2 : Int) ^ k = (T : Int) := by rw [← hT]; simp
    have hT5 : T ≤ 2 ^ 5 := by rw [← hT]; exact Nat.pow_le_pow_right (by decide) hq5
    have HV : Hid (fewV W rows P l = (bestR one l k T).1) := by show _ = _; unfold fewV; rw [hsv, if_pos rfl, HLL.out, hone, hT]
    have HON : Hid (∀ s, one s = ((puzV W rows P (hintS l s k)).length == 1)) := fun s => by rw [← hone]; unfold oneV; rw [HLL.out]
    have HSV := Lib.hid hsv
    have HVR := Lib.hid hvr
    have HPC := Lib.hid hpc
    have hk0 : (0 : Int) ≤ (k : Int) := by omega
    have hk64 : (k : Int) ≤ 64 := by omega
    have ek : IntKind.i64.wrap (k : Int) = (k : Int) := Go.IntWalk.i64_in _ (by omega)
    have eT : IntKind.i64.wrap (T : Int) = (T : Int) := Go.IntWalk.i64_in _ (by omega)
    clear hsv hvr hpc hlen hone hT
    go_enter Tryz.func28, Tryz.ntmps28
    go_wp2_with fail
    refine (IsSolution_s W A B D n c k cb k cd rows l hs P _ HR.out HL.out HP.out hq HM.out HRD.out HLL.out hk).mono ?_
    rw [HSV.out]
    rintro e w1 ⟨rfl, hb1⟩
    have HB := Lib.hid hb1
    have HBX := Lib.hid (HB1.out.below hb1)
    have HBW := Lib.hid (bel_trans hbw1 hb1)
    have HR1 := Lib.hid (HR.out.below hb1)
    have HP1 := Lib.hid (HP.out.below hb1)
    have HRD1 := Lib.hid (HRD.out.below hb1)
    clear hb1 hb0 hbw1 HR HP HRD HB1
    go_wp2_with (at_builtin; go_must (refine app_I _ rfl _ _ rfl w1.heap.size _ _ _ ([] : List Int) rfl (own_new w1 3 1 0 #[] rfl (by simp [maxLen]) (Nat.le_refl _)) _ _ _ l rfl (HRD1.out.alloc _) HLL.out (by omega) (by simp) ?_); intro A5 c5 w5 ho5 hg5 hat5; rw [Nat.zero_add] at ho5 ⊢; have HO5 := Lib.hid ho5; have HG5 := Lib.hid hg5; clear ho5 hg5 hat5)
    have hb5 : Below w1.heap.size w1 w5 := bel_app (bel_alloc (Below.refl _ _) _) HG5.out (fun g e => by simp only [ob, Option.map_some, Option.some.injEq] at e; omega)
    have HB5 := Lib.hid hb5
    clear hb5
    go_loopw [10, 8, 9] (fun e10 e8 e9 wr => ∃ (s z c8 : Nat) (D8 : Option Addr) (Bs : List Int), s ≤ T ∧ e10 = .int .i64 s ∧ e8 = .slice D8 k c8 ∧ e9 = .int .i64 (z : Int) ∧ bestR one l k s = (Bs, z) ∧ z ≤ k ∧ wr.ownsRow w.heap.size 3 1 (.slice D8 k c8) k (vI Bs) ∧ Below w1.heap.size w1 wr) (fun e10 _ _ _ => T - (intOf e10).toNat)
    case atStart => exact ⟨0, k, c5, A5, l, Nat.zero_le _, rfl, rfl, rfl, rfl, Nat.le_refl _, own_mono2 (by simpa using HO5.out) HBW.out.size, HB5.out⟩
    case round =>
      clear HO5 HG5 HB5
      obtain ⟨s, z, c8, D8, Bs, hsT, rfl, rfl, rfl, hbs, hzk, hO8, hb⟩ := hrel
      have HBS := Lib.hid hbs
      have HO8 := Lib.hid hO8
      have HBR := Lib.hid hb
      clear hbs hO8 hb
      by_cases hlt : s < T
      · have hi0 : (0 : Int) ≤ (s : Int) := by omega
        have hi1 : (s : Int) < (T : Int) := by omega
        have hst : bestR one l k (s + 1) = if popN k s < z ∧ one s = true then (hintS l s k, popN k s) else (Bs, z) := by
          show (if popN k s < (bestR one l k s).2 ∧ one s = true then (hintS l s k, popN k s) else bestR one l k s) = _
          rw [HBS.out]
        have HST := Lib.hid hst
        have hs36 : s < 2 ^ 36 := by omega
        clear hst
        go_wp2_with fail
        refine (l22None_s k wr hk).mono ?_
        rintro e w3 ⟨E, q3, cE, rfl, hOE, hb3⟩
        obtain rfl : q3 = k := by have h3 := own_len hOE; rw [vI_length, List.length_replicate] at h3; omega
        obtain ⟨gE, rfl, hqE⟩ := ownQ_of hOE (by omega)
        have hgE := (own_lt hOE gE rfl).1
        have HOE := Lib.hid hOE
        have HB3 := Lib.hid hb3
        have HDG : Hid (∀ g, ob D = some g → g ≠ gE) := fun g hg e => by
          obtain ⟨g2, hg2, h2⟩ := Rd.blk (HRD1.out.below HBR.out) (by rw [HLL.out]; omega)
          rw [hg] at hg2
          injection hg2 with hg2
          omega
        clear hOE hb3 hqE
        go_wp2_with fail
        refine fhInner hs36 (by omega) HLL.out ((HRD1.out.below HBR.out).below HB3.out) HDG.out HOE.out ?_
        intro _ _ _ _ _ _ _ _ _ _ _ _ _ _ _ _ _ _ _ _ w4 hO4 hg4
        obtain ⟨z2, hz2⟩ : ∃ z2, popN q3 s = z2 := ⟨_, rfl⟩
        have hz2k : z2 ≤ q3 := by rw [← hz2]; unfold popN; have h := List.countP_le_length (p := fun i => s.testBit i) (l := List.range q3); simpa using h
        have hb4 : Below wr.heap.size wr w4 := hb3g HB3.out hg4 hgE
        have HO4 := Lib.hid hO4
        have HB4 := Lib.hid (bel_trans HBR.out hb4)
        have HO8b := Lib.hid (own_keep HO8.out hb4)
        rw [hz2] at HST ⊢
        have hB := HBX.out.below HB4.out
        have b0 : w4.cell? ⟨w.heap.size, 0, none⟩ = some (.int .i64 W) := by simpa using hB.cell 0
        have b1 : w4.cell? ⟨w.heap.size, 1, none⟩ = some (.slice A n c) := by simpa using hB.cell 1
        have hgw := hB.lt
        have hwE : w.heap.size ≤ wr.heap.size := by have h1 := HBW.out.size; have h2 := HBR.out.size; omega
        clear hO4 hg4 hb4 hB hz2 HOE HO8
        by_cases hz : z2 < z
        · have hzl : (z2 : Int) < (z : Int) := by omega
          go_wp2_with fail
          have hS := l22All_s W A B (some ⟨gE, 0, none⟩) n c q3 cb cE rows (hintS l s q3) hs P w4 (HR1.out.below HB4.out) HL.out HVR.out (HP1.out.below HB4.out) HPC.out (Rd.of_own HO4.out) (hintS_len _ _ _)
          refine Calls.mono hS ?_
          rintro e w6 ⟨E6, u, cu, hE, rfl, hOE6, hb6⟩
          have hu := hOE6.flen
          have HB6 := Lib.hid (bel_trans HB4.out hb6)
          have hon := HON.out s
          rw [hu] at hon
          by_cases hu1 : u = 1
          · have hue : ((u : Int) == 1) = true := by simp [hu1]
            have hst2 : bestR one l q3 (s + 1) = (hintS l s q3, z2) := by rw [HST.out, if_pos ⟨hz, by rw [hon, hu1]; rfl⟩]
            have HST2 := Lib.hid hst2
            have HO6 := Lib.hid (own_mono2 (own_keep HO4.out hb6) hwE)
            clear hS hOE6 hu hb6 hon hu1 hst2 b0 b1 hgw
            go_wp2_with fail
            exact ⟨⟨s + 1, z2, cE, some ⟨gE, 0, none⟩, _, by omega, by go_num, rfl, rfl, HST2.out, hz2k, HO6.out, HB6.out⟩, by simp [intOf]; omega⟩
          · have hue : ((u : Int) == 1) = false := by simp; omega
            have hst2 : bestR one l q3 (s + 1) = (Bs, z) := by
              rw [HST.out, if_neg]
              rintro ⟨_, h2⟩
              rw [hon] at h2
              exact hu1 (by simpa using h2)
            have HST2 := Lib.hid hst2
            have HO6 := Lib.hid (own_keep HO8b.out hb6)
            clear hS hOE6 hu hb6 hon hu1 hst2 b0 b1 hgw
            go_wp2_with fail
            exact ⟨⟨s + 1, z, c8, D8, _, by omega, by go_num, rfl, rfl, HST2.out, hzk, HO6.out, HB6.out⟩, by simp [intOf]; omega⟩
        · have hzl : ¬ (z2 : Int) < (z : Int) := by omega
          have hst2 : bestR one l q3 (s + 1) = (Bs, z) := by rw [HST.out, if_neg (fun h => hz h.1)]
          have HST2 := Lib.hid hst2
          clear hst2
          go_wp2_with fail
          exact ⟨⟨s + 1, z, c8, D8, _, by omega, by go_num, rfl, rfl, HST2.out, hzk, HO8b.out, HB4.out⟩, by simp [intOf]; omega⟩
      · obtain rfl : s = T := by omega
        have hi1 : ¬ (s : Int) < (s : Int) := by omega
        go_wp2_with fail
        go_ret2
        exact ⟨_, _, _, rfl, by rw [HV.out, HBS.out]; exact HO8.out, bel_trans HBW.out HBR.out⟩
end Go.Proofs.YtglilkneipfheaaGreat

/- Puzzles: the fewest hints, the program. -/
namespace Go.Proofs.YtglilkneipfheaaGreat
open Go.RowKit
set_option linter.unusedVariables false
attribute [local go_sem ↓] Go.wp_at_zero Go.wp_at_succ
theorem bit_testZ (m k : Nat) (hm : m < 2 ^ 62) : (bits .and .i64 ((m : Int) / 2 ^ k) 1 == 0) = !m.testBit k := by
  have e : ((m : Int) / 2 ^ k) = ((m / 2 ^ k : Nat) : Int) := by simp
  have hle := Nat.div_le_self m (2 ^ k)
  have h1 := i64_and (m / 2 ^ k) 1 (by omega) (by decide)
  rw [e, show (1 : Int) = ((1 : Nat) : Int) from rfl, h1, Nat.and_one_is_mod, bit_and]
  cases m.testBit k <;> rfl
noncomputable def fhInP : Code := ((Tryz.f29.body.map loopsIn).getD []).getD 1 .skip
set_option maxRecDepth 100000 in
set_option maxHeartbeats 1600000 in
theorem fhInnerP {Q : Exit → Act → World → Prop} {s0 s1 s3 s4 s5 s6 s7 s8 s9 s12 s13 s14 s15 s16 s17 s18 s19 s20 s21 s22 s23 s24 s25 s26 s27 s28 s29 s30 s31 s32 s33 s34 s35 s39 s40 s41 s42 s43 s44 s45 s46 s47 s48 s49 s50 s51 s52 s53 s54 s55 s56 s57 s58 s59 s60 s61 s62 s63 : Value} {s n cd : Nat} {D : Option Addr} {l : List Int} {w : World}
    (hs : s < 2 ^ 36) (hn : n ≤ 36) (hl : l.length = n) (hD : Rd w D (vI l))
    (hexit : ∀ (v12 v13 v39 v40 v41 v42 v43 v44 v45 v46 v47 v48 v49 v50 v51 v52 : Value) (E : Option Addr) (cE : Nat) (w3 : World), w3.ownsRow w.heap.size 3 1 (.slice E n cE) n (vI (hintS l s n)) → Below w.heap.size w w3 → Q (.exit 2) ⟨List.toArray (s0 :: s1 :: (.slice D n cd) :: s3 :: s4 :: s5 :: s6 :: s7 :: s8 :: s9 :: (.int .i64 (s : Int)) :: (.slice E n cE) :: v12 :: v13 :: s14 :: s15 :: s16 :: s17 :: s18 :: s19 :: s20 :: s21 :: s22 :: s23 :: s24 :: s25 :: s26 :: s27 :: s28 :: s29 :: s30 :: s31 :: s32 :: s33 :: s34 :: s35 :: (.slice D n cd) :: (.int .i64 (n : Int)) :: (.int .i64 (n : Int)) :: v39 :: v40 :: v41 :: v42 :: v43 :: v44 :: v45 :: v46 :: v47 :: v48 :: v49 :: v50 :: v51 :: v52 :: s53 :: s54 :: s55 :: s56 :: s57 :: s58 :: s59 :: s60 :: s61 :: s62 :: s63 :: []), []⟩ w3) :
    Code.wp Tryz.prog (Code.loop fhInP) Q ⟨List.toArray (s0 :: s1 :: (.slice D n cd) :: s3 :: s4 :: s5 :: s6 :: s7 :: s8 :: s9 :: (.int .i64 (s : Int)) :: (.slice none 0 0) :: s12 :: s13 :: s14 :: s15 :: s16 :: s17 :: s18 :: s19 :: s20 :: s21 :: s22 :: s23 :: s24 :: s25 :: s26 :: s27 :: s28 :: s29 :: s30 :: s31 :: s32 :: s33 :: s34 :: s35 :: (.slice D n cd) :: (.int .i64 (n : Int)) :: (.int .i64 0) :: s39 :: s40 :: s41 :: s42 :: s43 :: s44 :: s45 :: s46 :: s47 :: s48 :: s49 :: s50 :: s51 :: s52 :: s53 :: s54 :: s55 :: s56 :: s57 :: s58 :: s59 :: s60 :: s61 :: s62 :: s63 :: []), []⟩ w := by
  have HD := Lib.hid hD
  have HL := Lib.hid hl
  have HX := Lib.hid @hexit
  clear hD hl hexit
  conv => arg 2; arg 1; whnf
  go_loopw [38, 11] (fun e38 e11 wr => ∃ (i cE : Nat) (E : Option Addr), i ≤ n ∧ e38 = .int .i64 i ∧ e11 = .slice E i cE ∧ wr.ownsRow w.heap.size 3 1 (.slice E i cE) i (vI (hintS l s i)) ∧ Below w.heap.size w wr) (fun e38 _ _ => n - (intOf e38).toNat)
  case atStart => exact ⟨0, 0, none, Nat.zero_le _, rfl, rfl, own_nil _ _ _ _, Below.refl _ _⟩
  case round =>
    obtain ⟨i, cE, E, hi, rfl, rfl, hO, hb⟩ := hrel
    have HO := Lib.hid hO
    have HB := Lib.hid hb
    clear hO hb
    by_cases hlt : i < n
    · have hi0 : (0 : Int) ≤ (i : Int) := by omega
      have hi1 : (i : Int) < (n : Int) := by omega
      have hi64 : (i : Int) ≤ 64 := by omega
      have ei : IntKind.i64.wrap (i : Int) = (i : Int) := Go.IntWalk.i64_in _ (by omega)
      have hil : i < l.length := by rw [HL.out]; exact hlt
      have hbit := bit_testZ s i (by omega)
      obtain ⟨d, hd⟩ : ∃ d, s / 2 ^ i = d := ⟨_, rfl⟩
      have hdI : (s : Int) / 2 ^ i = (d : Int) := by rw [← hd]; simp
      rw [hdI] at hbit
      obtain ⟨g, off, hDe, hg1, d1⟩ := RdI.at_ (HD.out.below HB.out) hil
      have hst : hintS l s (i + 1) = hintS l s i ++ [if s.testBit i then l[i] else -1] := by
        show hintS l s i ++ [if s.testBit i then l.getD i 0 else -1] = _
        rw [List.getD_eq_getElem?_getD, List.getElem?_eq_getElem hil]
        rfl
      obtain ⟨v, hv⟩ : ∃ v, l[i] = v := ⟨_, rfl⟩
      rw [hv] at hst d1
      subst hDe
      clear hd hv
      cases hbt : s.testBit i with
      | false =>
        rw [hbt] at hbit hst
        simp only [Bool.false_eq_true, if_false, Bool.not_false] at hbit hst
        have HST := Lib.hid hst
        clear hst hbt
        go_wp2_with (at_builtin; go_must (refine app_I _ rfl _ _ rfl w.heap.size _ _ _ (hintS l s i) rfl (HO.out.alloc _) _ _ _ [(-1 : Int)] rfl (rd_newI _ _ _) rfl (by omega) (by have := HB.out.size; simp; omega) ?_); intro A5 c5 w5 ho5 hg5 hat5; have HO5 := Lib.hid ho5; have HG5 := Lib.hid hg5; clear ho5 hg5 hat5)
        exact ⟨⟨i + 1, c5, A5, by omega, by go_num, rfl, by rw [HST.out]; exact HO5.out, bel_app (bel_alloc HB.out _) HG5.out (fun g e => (own_lt HO.out g e).1)⟩, by simp [intOf]; omega⟩
      | true =>
        rw [hbt] at hbit hst
        simp only [if_true, Bool.not_true] at hbit hst
        have HST := Lib.hid hst
        clear hst hbt
        go_wp2_with (at_builtin; go_must (refine app_I _ rfl _ _ rfl w.heap.size _ _ _ (hintS l s i) rfl (HO.out.alloc _) _ _ _ [v] rfl (rd_newI _ _ _) rfl (by omega) (by have := HB.out.size; simp; omega) ?_); intro A5 c5 w5 ho5 hg5 hat5; have HO5 := Lib.hid ho5; have HG5 := Lib.hid hg5; clear ho5 hg5 hat5)
        exact ⟨⟨i + 1, c5, A5, by omega, by go_num, rfl, by rw [HST.out]; exact HO5.out, bel_app (bel_alloc HB.out _) HG5.out (fun g e => (own_lt HO.out g e).1)⟩, by simp [intOf]; omega⟩
    · obtain rfl : i = n := by omega
      have hi1 : ¬ (i : Int) < (i : Int) := by omega
      go_wp2_with fail
      exact HX.out _ _ _ _ _ _ _ _ _ _ _ _ _ _ _ _ _ _ _ HO.out HB.out
theorem bestP_none {one : Nat → Bool} {s : Nat} (h : bestP one s = none) : bestP one (s + 1) = if one s = true then some s else none := by
  show (match bestP one s with
    | some b => if pop s < pop b ∧ one s = true then some s else some b
    | none => if one s = true then some s else none) = _
  rw [h]
theorem bestP_some {one : Nat → Bool} {s b : Nat} (h : bestP one s = some b) : bestP one (s + 1) = if pop s < pop b ∧ one s = true then some s else some b := by
  show (match bestP one s with
    | some b => if pop s < pop b ∧ one s = true then some s else some b
    | none => if one s = true then some s else none) = _
  rw [h]
theorem fewV_len (W : Int) (rows : List Int) (P : List (List C)) (l : List Int) : (fewV W rows P l).length ≤ 5 := by
  unfold fewV
  split
  · next h =>
    have hreg := h
    unfold solV at hreg
    simp only [Bool.and_eq_true, beq_iff_eq] at hreg
    obtain ⟨⟨hvr, hpc⟩, hlen, _⟩ := hreg
    have h5 := (pcs_small hpc).1
    obtain ⟨b, _, _, e⟩ := best_end (oneV W rows P l) l l.length (by omega) rfl (oneV_full h)
    rw [e, hintS_len]
    omega
  · simp
/-- The program's choice, as it lies in the frame. -/
def bestN : Option Nat → Int
  | none => -1
  | some b => (b : Int)
def bestL (l : List Int) (k : Nat) : Option Nat → List Int
  | none => []
  | some b => hintS l b k
set_option maxRecDepth 100000 in
set_option maxHeartbeats 3200000 in
theorem FewestHints_i (W : Int) (A B D : Option Addr) (n c q cb k cd : Nat) (rows l : List Int) (hs : List H) (P : List (List C)) (w : World) (hr : Rd w A (vI rows)) (hl : rows.length = n) (hp : RdP w B q hs P) (hq : q ≤ 1048576) (hm : totC P ≤ 1048576) (hrd : Rd w D (vI l)) (hll : l.length = k) (hk : k ≤ 1048576) :
    Calls Tryz.prog 29 #[.agg #[.int .i64 W, .slice A n c], .slice B q cb, .slice D k cd] w (RetS2 w 3 1 (vI (fewV W rows P l)) (.bool (solV W rows P l))) := by
  have HL := Lib.hid hl
  have HR := Lib.hid (hr.alloc (.cells #[.int .i64 W, .slice A n c] 29))
  have HP := Lib.hid (hp.alloc (.cells #[.int .i64 W, .slice A n c] 29))
  have HLL := Lib.hid hll
  have HRD := Lib.hid (hrd.alloc (.cells #[.int .i64 W, .slice A n c] 29))
  have HB1 := Lib.hid (Blk.new w 29 #[.int .i64 W, .slice A n c])
  have hbw1 : Below w.heap.size w (w.alloc (.cells #[.int .i64 W, .slice A n c] 29)) := bel_alloc (Below.refl _ _) _
  have HM := Lib.hid hm
  have HPF := Lib.hid hp.flen
  have hb0 : (w.alloc (.cells #[.int .i64 W, .slice A n c] 29)).cell? ⟨w.heap.size, 0, none⟩ = some (.int .i64 W) := by simp
  clear hl hr hp hm hll hrd
  cases hsv : solV W rows P l with
  | false =>
    have HV : Hid (fewV W rows P l = []) := by show _ = _; unfold fewV; rw [hsv]; rfl
    have HSV := Lib.hid hsv
    clear hsv
    go_enter Tryz.func29, Tryz.ntmps29
    go_wp2_with fail
    refine (IsSolution_i W A B D n c q cb k cd rows l hs P _ HR.out HL.out HP.out hq HM.out HRD.out HLL.out hk).mono ?_
    rw [HSV.out]
    rintro e w1 ⟨rfl, hb1⟩
    have HB := Lib.hid hb1
    clear hb1 hb0
    go_wp2_with fail
    go_ret2
    exact ⟨none, 0, 0, rfl, by rw [HV.out]; exact own_nil _ _ _ _, bel_trans hbw1 HB.out⟩
  | true =>
    have hreg := hsv
    unfold solV at hreg
    simp only [Bool.and_eq_true, beq_iff_eq] at hreg
    obtain ⟨⟨hvr, hpc⟩, hlen, _⟩ := hreg
    have hkq : k = q := by have h1 := HLL.out; have h2 := HPF.out; omega
    have hq5 := (pcs_small hpc).1
    rw [HPF.out] at hq5
    subst hkq
    obtain ⟨one, hone⟩ : ∃ one, oneV W rows P l = one := ⟨_, rfl⟩
    have hfull := oneV_full hsv
    rw [hone, HLL.out] at hfull
    obtain ⟨bE, hbE, hbE2, hbE3⟩ := best_end one l k (by omega) HLL.out hfull
    obtain ⟨T, hT⟩ : ∃ T : Nat, 2 ^ k = T := ⟨_, rfl⟩
    rw [hT] at hbE hbE2 hbE3
    have hTI : (2 : Int) ^ k = (T : Int) := by rw [← hT]; simp
    have hT5 : T ≤ 2 ^ 5 := by rw [← hT]; exact Nat.pow_le_pow_right (by decide) hq5
    have HV : Hid (fewV W rows P l = hintS l bE k) := by show _ = _; unfold fewV; rw [hsv, if_pos rfl, HLL.out, hone, hT, hbE3]
    have HON : Hid (∀ s, one s = true ↔ cwhV W rows P (hintS l s k) = 1) := fun s => by
      rw [← hone]
      unfold oneV cwhV
      rw [HLL.out, hvr, hpc, hintS_len, HPF.out]
      simp
      omega
    have HEND := Lib.hid hbE2
    have HSV := Lib.hid hsv
    have hk0 : (0 : Int) ≤ (k : Int) := by omega
    have hk64 : (k : Int) ≤ 64 := by omega
    have ek : IntKind.i64.wrap (k : Int) = (k : Int) := Go.IntWalk.i64_in _ (by omega)
    have eT : IntKind.i64.wrap (T : Int) = (T : Int) := Go.IntWalk.i64_in _ (by omega)
    clear hsv hvr hpc hlen hone hT hfull hbE hbE2 hbE3
    go_enter Tryz.func29, Tryz.ntmps29
    go_wp2_with fail
    refine (IsSolution_i W A B D n c k cb k cd rows l hs P _ HR.out HL.out HP.out hq HM.out HRD.out HLL.out hk).mono ?_
    rw [HSV.out]
    rintro e w1 ⟨rfl, hb1⟩
    have HBX := Lib.hid (HB1.out.below hb1)
    have HBW := Lib.hid (bel_trans hbw1 hb1)
    have HR1 := Lib.hid (HR.out.below hb1)
    have HP1 := Lib.hid (HP.out.below hb1)
    have HRD1 := Lib.hid (HRD.out.below hb1)
    clear hb1 hb0 hbw1 HR HP HRD HB1
    go_wp2_with fail
    go_loopw [22, 8, 9] (fun e22 e8 e9 wr => ∃ (s n8 c8 : Nat) (D8 : Option Addr) (bo : Option Nat), s ≤ T ∧ e22 = .int .i64 s ∧ e8 = .slice D8 n8 c8 ∧ e9 = .int .i64 (bestN bo) ∧ bestP one s = bo ∧ (∀ b, bo = some b → b < T) ∧ wr.ownsRow w.heap.size 3 1 (.slice D8 n8 c8) n8 (vI (bestL l k bo)) ∧ Below w1.heap.size w1 wr) (fun e22 _ _ _ => T - (intOf e22).toNat)
    case atStart => exact ⟨0, 0, 0, none, none, Nat.zero_le _, rfl, rfl, rfl, rfl, (fun b h => by cases h), own_nil _ _ _ _, Below.refl _ _⟩
    case round =>
      obtain ⟨s, n8, c8, D8, bo, hsT, rfl, rfl, rfl, hbs, hbT, hO8, hb⟩ := hrel
      have HBS := Lib.hid hbs
      have HO8 := Lib.hid hO8
      have HBR := Lib.hid hb
      clear hbs hO8 hb
      by_cases hlt : s < T
      · have hi0 : (0 : Int) ≤ (s : Int) := by omega
        have hi1 : (s : Int) < (T : Int) := by omega
        have hs36 : s < 2 ^ 36 := by omega
        cases bo with
        | none =>
          have hst2 := bestP_none HBS.out
          have HST := Lib.hid hst2
          have hm1 : bestN none = -1 := rfl
          rw [hm1]
          have hge : ¬ ((-1 : Int) ≥ 0) := by omega
          clear hst2 hbT hm1
          go_wp2_with fail
          have HRR : Hid (Below wr.heap.size wr wr) := Below.refl _ _
          refine fhInnerP hs36 (by omega) HLL.out (HRD1.out.below HBR.out) ?_
          intro _ _ _ _ _ _ _ _ _ _ _ _ _ _ _ _ E cE w4 hO4 hb4
          have HO4 := Lib.hid hO4
          have HB4 := Lib.hid (bel_trans HBR.out hb4)
          have HO8b := Lib.hid (own_keep HO8.out (bel_trans HRR.out hb4))
          have hB := HBX.out.below HB4.out
          have b0 : w4.cell? ⟨w.heap.size, 0, none⟩ = some (.int .i64 W) := by simpa using hB.cell 0
          have b1 : w4.cell? ⟨w.heap.size, 1, none⟩ = some (.slice A n c) := by simpa using hB.cell 1
          have hgw := hB.lt
          have hwE : w.heap.size ≤ wr.heap.size := by have h1 := HBW.out.size; have h2 := HBR.out.size; omega
          clear hO4 hb4 hB
          go_wp2_with fail
          refine (CountWithHint_i W A B E n c k cb k cE rows (hintS l s k) hs P w4 (HR1.out.below HB4.out) HL.out (HP1.out.below HB4.out) hq HM.out (Rd.of_own HO4.out) (hintS_len _ _ _) hk).mono ?_
          have hon := HON.out s
          obtain ⟨cw, hcw⟩ : ∃ cw, cwhV W rows P (hintS l s k) = cw := ⟨_, rfl⟩
          rw [hcw] at hon ⊢
          rintro e w6 ⟨rfl, hb6⟩
          have HB6 := Lib.hid (bel_trans HB4.out hb6)
          cases ho : one s with
          | true =>
            have hcw1 : cw = 1 := hon.1 ho
            have hue : (cw == 1) = true := by simp [hcw1]
            have hst2 : bestP one (s + 1) = some s := by rw [HST.out, if_pos ho]
            have HST2 := Lib.hid hst2
            have HO6 := Lib.hid (own_mono2 (own_keep HO4.out hb6) hwE)
            clear hst2 hon hcw ho hcw1 hb6 b0 b1 hgw
            go_wp2_with fail
            exact ⟨⟨s + 1, k, cE, E, some s, by omega, by go_num, rfl, rfl, HST2.out, fun b h => by injection h with h; omega, HO6.out, HB6.out⟩, by simp [intOf]; omega⟩
          | false =>
            have hcw1 : ¬ cw = 1 := fun e => by rw [hon.2 e] at ho; cases ho
            have hue : (cw == 1) = false := by simpa using hcw1
            have hst2 : bestP one (s + 1) = none := by rw [HST.out, if_neg (by rw [ho]; simp)]
            have HST2 := Lib.hid hst2
            have HO6 := Lib.hid (own_keep HO8b.out hb6)
            clear hst2 hon hcw ho hcw1 hb6 b0 b1 hgw
            go_wp2_with fail
            exact ⟨⟨s + 1, n8, c8, D8, none, by omega, by go_num, rfl, rfl, HST2.out, (fun b h => by cases h), HO6.out, HB6.out⟩, by simp [intOf]; omega⟩
        | some b =>
          have hst2 := bestP_some HBS.out
          have HST := Lib.hid hst2
          have hb36 := hbT b rfl
          have hm1 : bestN (some b) = (b : Int) := rfl
          rw [hm1]
          have hge : (b : Int) ≥ 0 := by omega
          have hus : IntKind.u64.wrap (s : Int) = (s : Int) := wraps_u64 _ (by omega) (by omega)
          have hub : IntKind.u64.wrap (b : Int) = (b : Int) := wraps_u64 _ (by omega) (by omega)
          clear hst2 hm1
          go_wp2_with fail
          refine (OnesCount_l s _ (by omega)).mono ?_
          rintro e wA ⟨rfl, hbA⟩
          go_wp2_with fail
          refine (OnesCount_l b _ (by omega)).mono ?_
          rintro e wB ⟨rfl, hbB⟩
          have HAB := Lib.hid (bel_trans hbA hbB)
          have HBB := Lib.hid (bel_trans HBR.out HAB.out)
          obtain ⟨ps, hps⟩ : ∃ ps, pop s = ps := ⟨_, rfl⟩
          obtain ⟨pb, hpb⟩ : ∃ pb, pop b = pb := ⟨_, rfl⟩
          rw [hps, hpb] at HST ⊢
          clear hbA hbB hus hub hge hps hpb
          by_cases hpp : ps < pb
          · have hpp2 : ¬ ((ps : Int) ≥ (pb : Int)) := by omega
            go_wp2_with fail
            refine fhInnerP hs36 (by omega) HLL.out (HRD1.out.below HBB.out) ?_
            intro _ _ _ _ _ _ _ _ _ _ _ _ _ _ _ _ E cE w4 hO4 hb4
            have HO4 := Lib.hid hO4
            have HB4 := Lib.hid (bel_trans HBB.out hb4)
            have HO8b := Lib.hid (own_keep HO8.out (bel_trans HAB.out hb4))
            have hB := HBX.out.below HB4.out
            have b0 : w4.cell? ⟨w.heap.size, 0, none⟩ = some (.int .i64 W) := by simpa using hB.cell 0
            have b1 : w4.cell? ⟨w.heap.size, 1, none⟩ = some (.slice A n c) := by simpa using hB.cell 1
            have hgw := hB.lt
            have hwE : w.heap.size ≤ wB.heap.size := by have h1 := HBW.out.size; have h2 := HBB.out.size; omega
            clear hO4 hb4 hB
            go_wp2_with fail
            refine (CountWithHint_i W A B E n c k cb k cE rows (hintS l s k) hs P w4 (HR1.out.below HB4.out) HL.out (HP1.out.below HB4.out) hq HM.out (Rd.of_own HO4.out) (hintS_len _ _ _) hk).mono ?_
            have hon := HON.out s
            obtain ⟨cw, hcw⟩ : ∃ cw, cwhV W rows P (hintS l s k) = cw := ⟨_, rfl⟩
            rw [hcw] at hon ⊢
            rintro e w6 ⟨rfl, hb6⟩
            have HB6 := Lib.hid (bel_trans HB4.out hb6)
            cases ho : one s with
            | true =>
              have hcw1 : cw = 1 := hon.1 ho
              have hue : (cw == 1) = true := by simp [hcw1]
              have hst2 : bestP one (s + 1) = some s := by rw [HST.out, if_pos ⟨hpp, ho⟩]
              have HST2 := Lib.hid hst2
              have HO6 := Lib.hid (own_mono2 (own_keep HO4.out hb6) hwE)
              clear hst2 hon hcw ho hcw1 hb6 b0 b1 hgw
              go_wp2_with fail
              exact ⟨⟨s + 1, k, cE, E, some s, by omega, by go_num, rfl, rfl, HST2.out, fun b h => by injection h with h; omega, HO6.out, HB6.out⟩, by simp [intOf]; omega⟩
            | false =>
              have hcw1 : ¬ cw = 1 := fun e => by rw [hon.2 e] at ho; cases ho
              have hue : (cw == 1) = false := by simpa using hcw1
              have hst2 : bestP one (s + 1) = (some b) := by rw [HST.out, if_neg (fun h => by rw [ho] at h; cases h.2)]
              have HST2 := Lib.hid hst2
              have HO6 := Lib.hid (own_keep HO8b.out hb6)
              clear hst2 hon hcw ho hcw1 hb6 b0 b1 hgw
              go_wp2_with fail
              exact ⟨⟨s + 1, n8, c8, D8, (some b), by omega, by go_num, rfl, rfl, HST2.out, fun b' h => by injection h with h; omega, HO6.out, HB6.out⟩, by simp [intOf]; omega⟩
          · have hpp2 : (ps : Int) ≥ (pb : Int) := by omega
            have hst2 : bestP one (s + 1) = some b := by rw [HST.out, if_neg (fun h => hpp h.1)]
            have HST2 := Lib.hid hst2
            clear hst2
            go_wp2_with fail
            exact ⟨⟨s + 1, n8, c8, D8, some b, by omega, by go_num, rfl, rfl, HST2.out, fun b' h => by injection h with h; omega, own_keep HO8.out HAB.out, HBB.out⟩, by simp [intOf]; omega⟩
      · obtain rfl : s = T := by omega
        have hi1 : ¬ (s : Int) < (s : Int) := by omega
        have hbo : bo = some bE := by rw [← HBS.out]; exact HEND.out
        subst hbo
        have hm1 : bestN (some bE) = (bE : Int) := rfl
        rw [hm1]
        have hge : (bE : Int) ≥ 0 := by omega
        clear hm1
        go_wp2_with fail
        go_ret2
        exact ⟨_, _, _, rfl, by rw [HV.out]; exact HO8.out, bel_trans HBW.out HBR.out⟩
end Go.Proofs.YtglilkneipfheaaGreat

/- The laws' own functions on integers and slices of integers: copying, comparing, marking. -/
namespace Go.Proofs.YtglilkneipfheaaGreat
open Go.RowKit
set_option linter.unusedVariables false
attribute [local go_sem ↓] Go.wp_at_zero Go.wp_at_succ

theorem toIntS_l (A : Option Addr) (n c : Nat) (xs : List Int) (w : World) (hr : Rd w A (vI xs)) (hl : xs.length = n) (hn : n ≤ 1048576) :
    Calls Tryz.prog 14 #[.slice A n c] w (RetS w 3 1 (vI xs)) := by
  have hmk := mk_I w n hn
  go_enter Tryz.func14, Tryz.ntmps14
  go_wp2
  go_loopw [4] (fun i wr => ∃ k : Nat, k ≤ n ∧ i = .int .i64 k ∧ Blk wr w.heap.size 3 (vI (xs.take k ++ List.replicate (xs.length - k) 0)).toArray ∧ Below w.heap.size w wr) (fun i _ => n - (intOf i).toNat)
  case atStart => exact ⟨0, Nat.zero_le _, rfl, by rw [hl]; exact Blk.new _ _ _, (by (repeat (first | with_reducible exact Below.refl _ _ | with_reducible assumption | with_reducible apply bel_alloc | with_reducible apply bel_drew | with_reducible apply bel_drewN | ((with_reducible refine bel_set ?_ ?_); rotate_left; (simp <;> omega)) | (with_reducible refine bel_trans ?_ (by with_reducible assumption)))))⟩
  case round =>
    obtain ⟨k, hk, rfl, hB, hb⟩ := hrel
    clear hmk
    by_cases hlt : k < n
    · have hkx : k < xs.length := by omega
      obtain ⟨g, off, rfl, hgn, c0⟩ := RdI.at_ hr hkx
      have c1 := keep_below hb c0
      have hgw := Nat.lt_of_lt_of_le hgn hb.size
      clear c0
      obtain ⟨x, hx⟩ : ∃ x, xs[k] = x := ⟨_, rfl⟩
      have hs := blkI_set hB k x
      rw [← hx, fill_step xs 0 k hkx, hx] at hs
      have d1 := blkI_cell hB (k := k) (by rw [fill_len _ _ _ (by omega)]; omega)
      generalize (xs.take k ++ List.replicate (xs.length - k) 0)[k]'(by rw [fill_len _ _ _ (by omega)]; omega) = z at d1
      have f1 := hB.frozen k
      rw [hx] at c1
      have HS := Lib.hid hs
      have hgl := hB.lt
      clear hs hx hB hl
      go_wp2
      exact ⟨⟨k + 1, by omega, by go_num, HS.out, (by (repeat (first | with_reducible exact Below.refl _ _ | with_reducible assumption | with_reducible apply bel_alloc | with_reducible apply bel_drew | with_reducible apply bel_drewN | ((with_reducible refine bel_set ?_ ?_); rotate_left; (simp <;> omega)) | (with_reducible refine bel_trans ?_ (by with_reducible assumption)))))⟩, by simp [intOf]; omega⟩
    · have hkk : k = n := by omega
      subst hkk
      have ho := own_blk hB (size := 1) (n := k) (by simp [vI_length, ← hl]) (Nat.le_refl _) (by unfold maxLen; omega)
      rw [← hl, fill_end] at ho
      have HO := Lib.hid ho
      have HL := Lib.hid hl
      clear ho hB hl
      go_wp2
      go_ret
      exact ⟨_, _, _, rfl, by have h := HO.out; rw [HL.out] at h; simpa using h, hb⟩

theorem eqIntS_l (A A2 : Option Addr) (n c n2 c2 : Nat) (xs ys : List Int) (w : World) (hr : Rd w A (vI xs)) (hr2 : Rd w A2 (vI ys)) (hl : xs.length = n) (hl2 : ys.length = n2) (hn : n ≤ 1099511627776) (hn2 : n2 ≤ 1099511627776) :
    Calls Tryz.prog 18 #[.slice A n c, .slice A2 n2 c2] w (Ret w (.bool (decide (xs = ys)))) := by
  by_cases hne : n = n2
  · subst hne
    have HL := Lib.hid hl
    have HL2 := Lib.hid hl2
    go_enter Tryz.func18, Tryz.ntmps18
    go_wp2
    clear hl hl2
    go_loopw [5] (fun i wr => ∃ k : Nat, k ≤ n ∧ i = .int .i64 k ∧ xs.take k = ys.take k ∧ Below w.heap.size w wr) (fun i _ => n - (intOf i).toNat)
    case atStart => exact ⟨0, Nat.zero_le _, rfl, rfl, Below.refl _ _⟩
    case round =>
      obtain ⟨k, hk, rfl, he, hb⟩ := hrel
      by_cases hlt : k < n
      · have hkx : k < xs.length := by rw [HL.out]; omega
        have hky : k < ys.length := by rw [HL2.out]; omega
        obtain ⟨g, off, rfl, hgw, c1⟩ := RdI.at_ (hr.below hb) hkx
        obtain ⟨g2, off2, rfl, hgw2, c2⟩ := RdI.at_ (hr2.below hb) hky
        have e1 := List.take_succ_eq_append_getElem hkx
        have e2 := List.take_succ_eq_append_getElem hky
        obtain ⟨x, hx⟩ : ∃ x, xs[k] = x := ⟨_, rfl⟩
        obtain ⟨y, hy⟩ : ∃ y, ys[k] = y := ⟨_, rfl⟩
        rw [hx] at c1 e1
        rw [hy] at c2 e2
        have HX := Lib.hid hx
        have HY := Lib.hid hy
        have HE := Lib.hid he
        have E1 := Lib.hid e1
        have E2 := Lib.hid e2
        have hi0 : (0 : Int) ≤ (k : Int) := by omega
        have hi1 : (k : Int) < (n : Int) := by omega
        clear e1 e2 hx hy he
        by_cases hxy : x = y
        · subst hxy
          go_wp2_with fail
          go_quiet (fail)
          go_wp2
          exact ⟨⟨k + 1, by omega, by go_num, by rw [E1.out, E2.out, HE.out], (by (repeat (first | with_reducible exact Below.refl _ _ | with_reducible assumption | with_reducible apply bel_alloc | with_reducible apply bel_drew | with_reducible apply bel_drewN | ((with_reducible refine bel_set ?_ ?_); rotate_left; (simp <;> omega)) | (with_reducible refine bel_trans ?_ (by with_reducible assumption)))))⟩, by simp [intOf]; omega⟩
        · have hd : (x == y) = false := by simpa using hxy
          have hv : decide (xs = ys) = false := by
            simp only [decide_eq_false_iff_not]
            rintro rfl
            exact hxy (HX.out.symm.trans HY.out)
          have HV := Lib.hid hv
          clear hxy hv
          go_wp2_with fail
          go_quiet (fail)
          go_wp2
          go_ret
          exact ⟨by rw [HV.out]; rfl, (by (repeat (first | with_reducible exact Below.refl _ _ | with_reducible assumption | with_reducible apply bel_alloc | with_reducible apply bel_drew | with_reducible apply bel_drewN | ((with_reducible refine bel_set ?_ ?_); rotate_left; (simp <;> omega)) | (with_reducible refine bel_trans ?_ (by with_reducible assumption)))))⟩
      · have hkk : k = n := by omega
        subst hkk
        rw [List.take_of_length_le (by rw [HL.out]; omega), List.take_of_length_le (by rw [HL2.out]; omega)] at he
        have HV : Hid (decide (xs = ys) = true) := by simpa [Hid] using he
        clear he
        go_wp2
        go_ret
        exact ⟨by rw [HV.out]; rfl, (by (repeat (first | with_reducible exact Below.refl _ _ | with_reducible assumption | with_reducible apply bel_alloc | with_reducible apply bel_drew | with_reducible apply bel_drewN | ((with_reducible refine bel_set ?_ ?_); rotate_left; (simp <;> omega)) | (with_reducible refine bel_trans ?_ (by with_reducible assumption)))))⟩
  · have hv : decide (xs = ys) = false := by
      simp only [decide_eq_false_iff_not]
      rintro rfl
      omega
    have HV := Lib.hid hv
    have hd : ((n : Int) == (n2 : Int)) = false := by simp; omega
    clear hv hl hl2
    go_enter Tryz.func18, Tryz.ntmps18
    go_wp2
    go_ret
    exact ⟨by rw [HV.out]; rfl, (by (repeat (first | with_reducible exact Below.refl _ _ | with_reducible assumption | with_reducible apply bel_alloc | with_reducible apply bel_drew | with_reducible apply bel_drewN | ((with_reducible refine bel_set ?_ ?_); rotate_left; (simp <;> omega)) | (with_reducible refine bel_trans ?_ (by with_reducible assumption)))))⟩

theorem eqIntS_t (A A2 : Option Addr) (n c n2 c2 : Nat) (xs : List Int) (w : World) (hr : Rd w A (vI xs)) (hr2 : Rd w A2 (vI xs)) (hl : xs.length = n) (hl2 : xs.length = n2) (hn : n ≤ 1099511627776) :
    Calls Tryz.prog 18 #[.slice A n c, .slice A2 n2 c2] w (Ret w (.bool true)) := by
  have h := eqIntS_l A A2 n c n2 c2 xs xs w hr hr2 hl hl2 hn (by omega)
  simpa using h

/-- What marking does: the numbers from k on, in its own block alone. -/
def MarkP (w : World) (base E sz : Nat) (A : Option Addr) (n c : Nat) (vs : List Value) (r : Int) (e : Ending) (w' : World) : Prop :=
  e = .returned (.int .i64 r) ∧ w'.ownsRow base E sz (.slice A n c) n vs ∧ w.grownBy w' (ob A)

theorem markIntS_l (A : Option Addr) (n c base : Nat) (k : Int) (xs : List Int) (w : World) (ho : w.ownsRow base 3 1 (.slice A n c) n (vI xs)) (hn : n ≤ 1099511627776) (hk0 : 0 ≤ k) (hk1 : k ≤ 1099511627776) :
    Calls Tryz.prog 30 #[.slice A n c, .int .i64 k] w (MarkP w base 3 1 A n c (vI (io k n)) (k + n)) := by
  have hl : xs.length = n := by have := own_len ho; rw [vI_length] at this; omega
  have HL := Lib.hid hl
  clear hl
  go_enter Tryz.func30, Tryz.ntmps30
  go_wp2
  go_loopw [1, 5] (fun t i wr => ∃ j : Nat, j ≤ n ∧ i = .int .i64 j ∧ t = .int .i64 (k + j) ∧ wr.ownsRow base 3 1 (.slice A n c) n (vI (io k j ++ xs.drop j)) ∧ w.grownBy wr (ob A)) (fun _ i _ => n - (intOf i).toNat)
  case atStart => exact ⟨0, Nat.zero_le _, rfl, by simp, by simpa [io] using ho, World.grownBy.refl _ _⟩
  case round =>
    obtain ⟨j, hj, rfl, rfl, hO, hg⟩ := hrel
    by_cases hlt : j < n
    · obtain ⟨g, rfl, hbg, hgw⟩ := own_at hO (by omega)
      have hjl : j < (io k j ++ xs.drop j).length := by rw [List.length_append, io_length, List.length_drop, HL.out]; omega
      have d1 := hO.cellAt j (by omega)
      rw [show (vI (io k j ++ xs.drop j))[j]? = some (.int .i64 (io k j ++ xs.drop j)[j]) from by simp only [vI, List.getElem?_map, List.getElem?_eq_getElem hjl, Option.map_some]] at d1
      generalize (io k j ++ xs.drop j)[j] = z at d1
      have f1 := hO.frozenAt j
      have hst := (hO.stored j (.int .i64 (k + j))).1
      rw [show (vI (io k j ++ xs.drop j)).set j (.int .i64 (k + j)) = vI (io k (j + 1) ++ xs.drop (j + 1)) from by rw [← mark_step k xs j (by rw [HL.out]; omega)]; simp [vI, List.map_set]] at hst
      have HS := Lib.hid hst
      have HO := Lib.hid hO
      clear hst hO
      go_wp2
      exact ⟨⟨j + 1, by omega, by go_num, by rw [show k + (j : Int) + 1 = k + ((j + 1 : Nat) : Int) from by omega], HS.out, grown_set (p := ⟨g, j, none⟩) hg rfl _⟩, by simp [intOf]; omega⟩
    · have hkk : j = n := by omega
      subst hkk
      rw [List.drop_of_length_le (by rw [HL.out]; omega), List.append_nil] at hO
      have HO := Lib.hid hO
      clear hO
      go_wp2
      go_ret
      exact ⟨rfl, HO.out, hg⟩

theorem heldIntS_l (A : Option Addr) (n c : Nat) (k : Int) (w : World) (hr : Rd w A (vI (io k n))) (hn : n ≤ 1099511627776) (hk0 : 0 ≤ k) (hk1 : k ≤ 1099511627776) :
    Calls Tryz.prog 31 #[.slice A n c, .int .i64 k] w (Ret w (.int .i64 (k + n))) := by
  go_enter Tryz.func31, Tryz.ntmps31
  go_wp2
  go_loopw [1, 5] (fun t i wr => ∃ j : Nat, j ≤ n ∧ i = .int .i64 j ∧ t = .int .i64 (k + j) ∧ Below w.heap.size w wr) (fun _ i _ => n - (intOf i).toNat)
  case atStart => exact ⟨0, Nat.zero_le _, rfl, by simp, Below.refl _ _⟩
  case round =>
    obtain ⟨j, hj, rfl, rfl, hb⟩ := hrel
    by_cases hlt : j < n
    · obtain ⟨g, off, rfl, hgw, c1⟩ := RdI.at_ (hr.below hb) (k := j) (by rw [io_length]; omega)
      rw [io_get] at c1
      go_wp2
      exact ⟨⟨j + 1, by omega, by go_num, by rw [show k + (j : Int) + 1 = k + ((j + 1 : Nat) : Int) from by omega], hb⟩, by simp [intOf]; omega⟩
    · have hkk : j = n := by omega
      subst hkk
      go_wp2
      go_ret
      exact ⟨rfl, hb⟩
end Go.Proofs.YtglilkneipfheaaGreat

/- The laws' own functions on regions. -/
namespace Go.Proofs.YtglilkneipfheaaGreat
open Go.RowKit
set_option linter.unusedVariables false
attribute [local go_sem ↓] Go.wp_at_zero Go.wp_at_succ

theorem own_nI {w : World} {base e n c : Nat} {A : Option Addr} {xs : List Int} (h : w.ownsRow base e 1 (.slice A n c) n (vI xs)) : xs.length = n := by
  have := own_len h
  rw [vI_length] at this
  omega
theorem own_far {w : World} {base e size n c : Nat} {A : Option Addr} {xs : List Value} {p : Addr} (h : w.ownsRow base e size (.slice A n c) n xs) (u : Value) (hp : ∀ g, ob A = some g → g ≠ p.block) : (w.setCell p u).ownsRow base e size (.slice A n c) n xs :=
  h.kept (grown_set (World.grownBy.refl w (some p.block)) rfl u) (by
    rw [ownBlock_slice]
    cases hA : ob A with
    | none => exact .inl rfl
    | some g => right; intro e; injection e with e; exact hp g hA e)
theorem own_kept2 {w w' : World} {base e size n c : Nat} {A : Option Addr} {xs : List Value} {X : Option Addr} (h : w.ownsRow base e size (.slice A n c) n xs) (hg : w.grownBy w' (ob X)) (hn : ∀ g, ob A = some g → ob X ≠ some g) : w'.ownsRow base e size (.slice A n c) n xs :=
  h.kept hg (by
    rw [ownBlock_slice]
    cases hA : ob A with
    | none => exact .inl rfl
    | some g => right; intro e; exact hn g hA e.symm)
theorem grown_alloc0 {w w' : World} {o : Obj} {row : Option Nat} (h : (w.alloc o).grownBy w' row) : w.grownBy w' row :=
  ⟨h.os, h.tape, h.output, by have := h.size; simp at this; omega, fun k hk hne => (h.block k (by simp; omega) hne).trans (Below.heap_alloc w o k hk)⟩
theorem szIntS_l (A : Option Addr) (n c : Nat) (m : Int) (w : World) (hm : n ≤ maxLen) (h0 : 0 ≤ m) (h1 : m ≤ 1048576) :
    Calls Tryz.prog 65 #[.slice A n c, .int .i64 m] w (Ret w (.int .i64 (if m < (n : Int) then -1 else m - n))) := by
  unfold maxLen at hm
  by_cases h : m < (n : Int)
  · have hlt : m - (n : Int) < 0 := by omega
    go_enter Tryz.func65, Tryz.ntmps65
    go_wp2
    go_ret
    exact ⟨rfl, (by (repeat (first | with_reducible exact Below.refl _ _ | with_reducible assumption | with_reducible apply bel_alloc | with_reducible apply bel_drew | with_reducible apply bel_drewN | ((with_reducible refine bel_set ?_ ?_); rotate_left; (simp <;> omega)) | (with_reducible refine bel_trans ?_ (by with_reducible assumption)))))⟩
  · have hlt : ¬ m - (n : Int) < 0 := by omega
    go_enter Tryz.func65, Tryz.ntmps65
    go_wp2
    go_ret
    exact ⟨rfl, (by (repeat (first | with_reducible exact Below.refl _ _ | with_reducible assumption | with_reducible apply bel_alloc | with_reducible apply bel_drew | with_reducible apply bel_drewN | ((with_reducible refine bel_set ?_ ?_); rotate_left; (simp <;> omega)) | (with_reducible refine bel_trans ?_ (by with_reducible assumption)))))⟩
/-- What is left behind a region's rows. -/
def szR (m : Int) (n : Nat) : Int := if m < (n : Int) then -1 else m - n
theorem szRegion_l (W : Int) (A : Option Addr) (n c : Nat) (m : Int) (w : World) (hn : n ≤ maxLen) (h0 : 0 ≤ m) (h1 : m ≤ 1048576) :
    Calls Tryz.prog 9 #[.agg #[.int .i64 W, .slice A n c], .int .i64 m] w (Ret w (.int .i64 (szR m n))) := by
  by_cases hlt : m < (n : Int)
  · have HV : Hid (szR m n = -1) := if_pos hlt
    go_enter Tryz.func9, Tryz.ntmps9
    go_wp2_with fail
    refine (szIntS_l A n c m _ hn h0 h1).mono ?_
    rw [if_pos hlt]
    rintro e w1 ⟨rfl, hb1⟩
    go_wp2_with fail
    go_ret
    exact ⟨by rw [HV.out]; rfl, (by (repeat (first | with_reducible exact Below.refl _ _ | with_reducible assumption | with_reducible apply bel_alloc | with_reducible apply bel_drew | with_reducible apply bel_drewN | ((with_reducible refine bel_set ?_ ?_); rotate_left; (simp <;> omega)) | (with_reducible refine bel_trans ?_ (by with_reducible assumption)))))⟩
  · have HV : Hid (szR m n = m - n) := if_neg hlt
    have hd : ¬ m - (n : Int) < 0 := by omega
    go_enter Tryz.func9, Tryz.ntmps9
    go_wp2_with fail
    refine (szIntS_l A n c m _ hn h0 h1).mono ?_
    rw [if_neg (by omega)]
    rintro e w1 ⟨rfl, hb1⟩
    go_wp2_with fail
    go_ret
    exact ⟨by rw [HV.out]; rfl, (by (repeat (first | with_reducible exact Below.refl _ _ | with_reducible assumption | with_reducible apply bel_alloc | with_reducible apply bel_drew | with_reducible apply bel_drewN | ((with_reducible refine bel_set ?_ ?_); rotate_left; (simp <;> omega)) | (with_reducible refine bel_trans ?_ (by with_reducible assumption)))))⟩
/-- A result that is a region whose rows are the call's own. -/
def RetR (w : World) (W : Int) (rows : List Int) (e : Ending) (w' : World) : Prop :=
  ∃ A n c, e = .returned (.agg #[.int .i64 W, .slice A n c]) ∧ w'.ownsRow w.heap.size 3 1 (.slice A n c) n (vI rows) ∧ Below w.heap.size w w'
theorem toRegion_l (W : Int) (A : Option Addr) (n c : Nat) (rows : List Int) (w : World) (hr : Rd w A (vI rows)) (hl : rows.length = n) (hn : n ≤ 1048576) :
    Calls Tryz.prog 12 #[.agg #[.int .i64 W, .slice A n c]] w (RetR w W rows) := by
  have HL := Lib.hid hl
  clear hl
  go_enter Tryz.func12, Tryz.ntmps12
  go_wp2_with fail
  refine (toIntS_l _ _ _ rows _ (hr.below (by (repeat (first | with_reducible exact Below.refl _ _ | with_reducible assumption | with_reducible apply bel_alloc | with_reducible apply bel_drew | with_reducible apply bel_drewN | ((with_reducible refine bel_set ?_ ?_); rotate_left; (simp <;> omega)) | (with_reducible refine bel_trans ?_ (by with_reducible assumption)))))) HL.out hn).mono ?_
  rintro e w1 ⟨B, q, cq, rfl, ho, hb1⟩
  obtain rfl : q = n := (own_nI ho).symm.trans HL.out
  have hsz := hb1.size
  simp only [World.size_alloc] at hsz
  have hB2 : Blk w1 (w.heap.size + 1 + 1) 29 #[.int .i64 W, .slice none 0 0] := Blk.below (by simpa using Blk.new ((w.alloc (Obj.cells #[Value.int IntKind.i64 W, Value.slice A q c] 24)).alloc (Obj.cells #[Value.int IntKind.i64 0, Value.slice none 0 0] 29)) 29 #[.int .i64 W, .slice none 0 0]) hb1
  have hB1 : Blk w1 (w.heap.size + 1) 29 #[.int .i64 0, .slice none 0 0] := Blk.below (Blk.alloc (by simpa using Blk.new (w.alloc (Obj.cells #[Value.int IntKind.i64 W, Value.slice A q c] 24)) 29 #[.int .i64 0, .slice none 0 0]) _) hb1
  have c20 : w1.cell? ⟨w.heap.size + 1 + 1, 0, none⟩ = some (.int .i64 W) := by simpa using hB2.cell 0
  have c21 : w1.cell? ⟨w.heap.size + 1 + 1, 1, none⟩ = some (.slice none 0 0) := by simpa using hB2.cell 1
  have c10 : w1.cell? ⟨w.heap.size + 1, 0, none⟩ = some (.int .i64 0) := by simpa using hB1.cell 0
  have c11 : w1.cell? ⟨w.heap.size + 1, 1, none⟩ = some (.slice none 0 0) := by simpa using hB1.cell 1
  have z20 := hB2.frozen 0
  have z21 := hB2.frozen 1
  have z10 := hB1.frozen 0
  have z11 := hB1.frozen 1
  have HO := Lib.hid ho
  have hD := (hB1.far (p := ⟨w.heap.size + 1 + 1, 1, none⟩) (by simp) (.slice B q cq)).set_ 0 (.int .i64 W)
  have e0 : ((w1.setCell ⟨w.heap.size + 1 + 1, 1, none⟩ (.slice B q cq)).setCell ⟨w.heap.size + 1, 0, none⟩ (.int .i64 W)).cell? ⟨w.heap.size + 1, 0, none⟩ = some (.int .i64 W) := by simpa using hD.cell 0
  have e1 : (((w1.setCell ⟨w.heap.size + 1 + 1, 1, none⟩ (.slice B q cq)).setCell ⟨w.heap.size + 1, 0, none⟩ (.int .i64 W)).setCell ⟨w.heap.size + 1, 1, none⟩ (.slice B q cq)).cell? ⟨w.heap.size + 1, 1, none⟩ = some (.slice B q cq) := by simpa using (hD.set_ 1 (.slice B q cq)).cell 1
  have E0 := Lib.hid e0
  have E1 := Lib.hid e1
  clear hB1 hB2 ho hD e0 e1
  go_wp2_with fail
  have e0 := E0.out
  have e1 := E1.out
  have ne : ∀ g, ob B = some g → g ≠ w.heap.size + 1 + 1 ∧ g ≠ w.heap.size + 1 := fun g e => by have := (own_lt HO.out g e).1; simp at this; omega
  exact bodyPost_ret (v := .agg #[.int .i64 W, .slice B q cq]) (by simp [results, Tryz.results12, go_sem, e0, e1]) rfl
    ⟨_, _, _, rfl, own_far (own_far (own_far (own_base HO.out (by simp; omega)) _ fun g e => (ne g e).1) _ fun g e => (ne g e).2) _ fun g e => (ne g e).2, (by (repeat (first | with_reducible exact Below.refl _ _ | with_reducible assumption | with_reducible apply bel_alloc | with_reducible apply bel_drew | with_reducible apply bel_drewN | ((with_reducible refine bel_set ?_ ?_); rotate_left; (simp <;> omega)) | (with_reducible refine bel_trans ?_ (by with_reducible assumption)))))⟩
theorem eqRegion_t (W : Int) (A A2 : Option Addr) (n c n2 c2 : Nat) (rows : List Int) (w : World) (hr : Rd w A (vI rows)) (hr2 : Rd w A2 (vI rows)) (hl : rows.length = n) (hl2 : rows.length = n2) (hn : n ≤ 1048576) :
    Calls Tryz.prog 16 #[.agg #[.int .i64 W, .slice A n c], .agg #[.int .i64 W, .slice A2 n2 c2]] w (Ret w (.bool true)) := by
  have HL := Lib.hid hl
  have HL2 := Lib.hid hl2
  clear hl hl2
  go_enter Tryz.func16, Tryz.ntmps16
  go_wp2_with fail
  refine (eqIntS_t _ _ _ _ _ _ rows _ (hr.below (by (repeat (first | with_reducible exact Below.refl _ _ | with_reducible assumption | with_reducible apply bel_alloc | with_reducible apply bel_drew | with_reducible apply bel_drewN | ((with_reducible refine bel_set ?_ ?_); rotate_left; (simp <;> omega)) | (with_reducible refine bel_trans ?_ (by with_reducible assumption)))))) (hr2.below (by (repeat (first | with_reducible exact Below.refl _ _ | with_reducible assumption | with_reducible apply bel_alloc | with_reducible apply bel_drew | with_reducible apply bel_drewN | ((with_reducible refine bel_set ?_ ?_); rotate_left; (simp <;> omega)) | (with_reducible refine bel_trans ?_ (by with_reducible assumption)))))) HL.out HL2.out (by omega)).mono ?_
  rintro e w1 ⟨rfl, hb1⟩
  go_wp2_with fail
  go_ret
  exact ⟨rfl, (by (repeat (first | with_reducible exact Below.refl _ _ | with_reducible assumption | with_reducible apply bel_alloc | with_reducible apply bel_drew | with_reducible apply bel_drewN | ((with_reducible refine bel_set ?_ ?_); rotate_left; (simp <;> omega)) | (with_reducible refine bel_trans ?_ (by with_reducible assumption)))))⟩
theorem markRegion_l (W : Int) (A : Option Addr) (n c base : Nat) (k : Int) (rows : List Int) (w : World) (ho : w.ownsRow base 3 1 (.slice A n c) n (vI rows)) (hn : n ≤ 1048576) (hk0 : 0 ≤ k) (hk1 : k ≤ 1099511627776) :
    Calls Tryz.prog 24 #[.agg #[.int .i64 W, .slice A n c], .int .i64 k] w (MarkP w base 3 1 A n c (vI (io k n)) (k + n)) := by
  go_enter Tryz.func24, Tryz.ntmps24
  go_wp2_with fail
  refine (markIntS_l _ _ _ base k rows _ (ho.alloc _) (by omega) hk0 hk1).mono ?_
  rintro e w1 ⟨rfl, ho2, hg2⟩
  have HO := Lib.hid ho2
  have HG := Lib.hid hg2
  clear ho2 hg2
  go_wp2_with fail
  go_ret
  exact ⟨rfl, HO.out, grown_alloc0 HG.out⟩
end Go.Proofs.YtglilkneipfheaaGreat

/- The laws' own marks on slices of cells. -/
namespace Go.Proofs.YtglilkneipfheaaGreat
open Go.RowKit
set_option linter.unusedVariables false
attribute [local go_sem ↓] Go.wp_at_zero Go.wp_at_succ


/-- k, k + 1 · k + 2, k + 3 · .. -/
def ioC (k : Int) (n : Nat) : List C := (List.range n).map fun (i : Nat) => (k + 2 * (i : Int), k + 2 * (i : Int) + 1)
theorem ioC_length (k : Int) (n : Nat) : (ioC k n).length = n := by simp [ioC]
theorem ioC_succ (k : Int) (n : Nat) : ioC k (n + 1) = ioC k n ++ [(k + 2 * n, k + 2 * n + 1)] := by simp [ioC, List.range_succ]
theorem ioC_get (k : Int) (n i : Nat) (h : i < (ioC k n).length) : (ioC k n)[i] = (k + 2 * i, k + 2 * i + 1) := by simp [ioC]
theorem markC_step (k : Int) (xs : List C) (j : Nat) (hj : j < xs.length) : (ioC k j ++ xs.drop j).set j (k + 2 * j, k + 2 * j + 1) = ioC k (j + 1) ++ xs.drop (j + 1) := by
  rw [List.set_append_right _ _ (by rw [ioC_length]; omega), ioC_length, Nat.sub_self, ioC_succ, List.append_assoc, List.drop_eq_getElem_cons hj]
  rfl
theorem markCellS_l (A : Option Addr) (n c base : Nat) (k : Int) (xs : List C) (w : World) (ho : w.ownsRow base 94 2 (.slice A n c) n (vC xs)) (hn : n ≤ 1099511627776) (hk0 : 0 ≤ k) (hk1 : k ≤ 1099511627776) :
    Calls Tryz.prog 75 #[.slice A n c, .int .i64 k] w (MarkP w base 94 2 A n c (vC (ioC k n)) (k + 2 * n)) := by
  have hl : xs.length = n := by have := own_len ho; rw [vC_length] at this; omega
  have HL := Lib.hid hl
  clear hl
  go_enter Tryz.func75, Tryz.ntmps75
  go_wp2
  go_loopw [1, 5] (fun t i wr => ∃ (j : Nat) (q : Int), j ≤ n ∧ i = .int .i64 j ∧ t = .int .i64 q ∧ q = k + 2 * j ∧ wr.ownsRow base 94 2 (.slice A n c) n (vC (ioC k j ++ xs.drop j)) ∧ w.grownBy wr (ob A)) (fun _ i _ => n - (intOf i).toNat)
  case atStart => exact ⟨0, k, Nat.zero_le _, rfl, rfl, by simp, by simpa [ioC] using ho, World.grownBy.refl _ _⟩
  case round =>
    obtain ⟨j, q, hj, rfl, rfl, hq, hO, hg⟩ := hrel
    by_cases hlt : j < n
    · obtain ⟨g, rfl, hbg, hgw⟩ := own_at hO (by omega)
      have hjl : j < (ioC k j ++ xs.drop j).length := by rw [List.length_append, ioC_length, List.length_drop, HL.out]; omega
      have d1 := hO.cellAt (j * 2) (by omega)
      rw [vC_get1 _ j hjl] at d1
      have f1 := hO.frozenAt (j * 2)
      have hst := (hO.stored (j * 2) (.int .i64 q)).1
      have d2 := hst.cellAt (j * 2 + 1) (by omega)
      rw [List.getElem?_set_ne (by omega), vC_get2 _ j hjl] at d2
      have f2 := hst.frozenAt (j * 2 + 1)
      have hst2 := (hst.stored (j * 2 + 1) (.int .i64 (q + 1))).1
      generalize (ioC k j ++ xs.drop j)[j] = z at d1 d2
      rw [vC_set_list _ j (q, q + 1), hq, markC_step k xs j (by rw [HL.out]; omega), ← hq] at hst2
      have q0 : 0 ≤ q := by omega
      have q1 : q ≤ 4398046511104 := by omega
      have HS := Lib.hid hst2
      have HQ := Lib.hid hq
      clear hst hst2 hO hq
      go_wp2
      exact ⟨⟨j + 1, q + 2, by omega, by go_num, by rw [show q + 1 + 1 = q + 2 from by omega], by have := HQ.out; omega, HS.out, grown_set (p := ⟨g, j * 2 + 1, none⟩) (grown_set (p := ⟨g, j * 2, none⟩) hg rfl _) rfl _⟩, by simp [intOf]; omega⟩
    · have hkk : j = n := by omega
      subst hkk
      rw [List.drop_of_length_le (by rw [HL.out]; omega), List.append_nil] at hO
      have HO := Lib.hid hO
      have HQ := Lib.hid hq
      clear hO hq
      go_wp2
      go_ret
      exact ⟨by rw [← HQ.out]; rfl, HO.out, hg⟩
end Go.Proofs.YtglilkneipfheaaGreat

/- The laws' own functions on slices of slices of integers: comparing, marking. -/
namespace Go.Proofs.YtglilkneipfheaaGreat
open Go.RowKit
set_option linter.unusedVariables false
attribute [local go_sem ↓] Go.wp_at_zero Go.wp_at_succ

theorem eqIntSS_t (b1 b2 : Nat) (A A2 : Option Addr) (n c n2 c2 : Nat) (hs hs2 : List H) (F : List (List Int)) (w : World) (h : Own2 b1 w A n c hs F) (h2 : Own2 b2 w A2 n2 c2 hs2 F) (hn : n ≤ 1099511627776) (hm : total F ≤ 1099511627776) :
    Calls Tryz.prog 23 #[.slice A n c, .slice A2 n2 c2] w (Ret w (.bool true)) := by
  obtain rfl : n2 = n := by rw [← h2.flen, h.flen]
  have H1 := Lib.hid h
  have H2 := Lib.hid h2
  clear h h2
  go_enter Tryz.func23, Tryz.ntmps23
  go_wp2
  go_loopw [5] (fun i wr => ∃ j : Nat, j ≤ n2 ∧ i = .int .i64 j ∧ Below w.heap.size w wr) (fun i _ => n2 - (intOf i).toNat)
  case atStart => exact ⟨0, Nat.zero_le _, rfl, Below.refl _ _⟩
  case round =>
    obtain ⟨j, hj, rfl, hb⟩ := hrel
    by_cases hlt : j < n2
    · have hj0 : (0 : Int) ≤ (j : Int) := by omega
      have hj1 : (j : Int) < (n2 : Int) := by omega
      have a1 : j < hs.length := by rw [H1.out.hlen]; exact hlt
      have a2 : j < hs2.length := by rw [H2.out.hlen]; exact hlt
      have a3 : j < F.length := by rw [H1.out.flen]; exact hlt
      obtain ⟨g, off, rfl, hg, d1⟩ := (H1.out.below hb).at_ a1
      obtain ⟨g2, off2, rfl, hg2, d2⟩ := (H2.out.below hb).at_ a2
      have r1 := (H1.out.below hb).rd a1 a3
      have r2 := (H2.out.below hb).rd a2 a3
      have l1 := H1.out.rlen a1 a3
      have l2 := H2.out.rlen a2 a3
      have l3 := total_take F j a3
      have l4 := total_le F (j + 1)
      obtain ⟨⟨B1, m1, k1⟩, e1⟩ : ∃ x, hs[j] = x := ⟨_, rfl⟩
      obtain ⟨⟨B2, m2, k2⟩, e2⟩ : ∃ x, hs2[j] = x := ⟨_, rfl⟩
      obtain ⟨f, e3⟩ : ∃ x, F[j] = x := ⟨_, rfl⟩
      rw [e1] at d1 r1 l1
      rw [e2] at d2 r2 l2
      rw [e3] at r1 r2 l1 l2 l3
      have hmf : m1 ≤ 1099511627776 := by dsimp only at l1; omega
      have L1 := Lib.hid l1
      have L2 := Lib.hid l2
      have R1 := Lib.hid r1
      have R2 := Lib.hid r2
      dsimp only at d1 d2
      clear e1 e2 e3 l1 l2 l3 l4 r1 r2
      go_wp2_with fail
      (refine wp_region_below (by kernel_rfl) (by kernel_rfl) ?_; (repeat (first | go_big_quiet_skip | (refine quietV (v := ?_) (by rfl) rfl (fun w' hbw => ?_) ?_; rotate_left; ((try dsimp only at hbw); have hbc := (bcell hbw).1; have hbf := (bcell hbw).2; go_simp; first | done | with_reducible rfl | exact callsBB (eqIntS_t _ _ _ _ _ _ f _ (R1.out.below hbw) (R2.out.below hbw) L1.out L2.out hmf) rfl hbw); simp only [List.setIfInBounds_toArray, List.set_cons_zero, List.set_cons_succ]))); refine wpQuiet_nil ?_; intro wq hbq)
      go_wp2_with fail
      exact ⟨⟨j + 1, by omega, by go_num, (by (repeat (first | with_reducible exact Below.refl _ _ | with_reducible assumption | with_reducible apply bel_alloc | with_reducible apply bel_drew | with_reducible apply bel_drewN | ((with_reducible refine bel_set ?_ ?_); rotate_left; (simp <;> omega)) | (with_reducible refine bel_trans ?_ (by with_reducible assumption)))))⟩, by simp [intOf]; omega⟩
    · have hj1 : ¬ (j : Int) < (n2 : Int) := by omega
      go_wp2
      go_ret
      exact ⟨rfl, hb⟩

/-- What marking does: the numbers from k on, row by row. -/
def MarkSS (base : Nat) (w : World) (B : Option Addr) (n c : Nat) (hs : List H) (F : List (List Int)) (r : Int) (e : Ending) (w' : World) : Prop :=
  e = .returned (.int .i64 r) ∧ Own2 base w' B n c hs F ∧ Below base w w'
theorem markIntSS_l (base : Nat) (A : Option Addr) (n c : Nat) (k : Int) (hs : List H) (F : List (List Int)) (w : World) (h : Own2 base w A n c hs F) (hbs : base ≤ w.heap.size) (hn : n ≤ 1099511627776) (hm : total F ≤ 1048576) (hk0 : 0 ≤ k) (hk1 : k ≤ 1048576) :
    Calls Tryz.prog 26 #[.slice A n c, .int .i64 k] w (MarkSS base w A n c hs (markF k F) (k + total F)) := by
  have hfl := h.flen
  have hhl := h.hlen
  have HF := Lib.hid hfl
  have HH := Lib.hid hhl
  have H1 := Lib.hid h
  clear h hfl hhl
  go_enter Tryz.func26, Tryz.ntmps26
  go_wp2
  go_loopw [1, 5] (fun t i wr => ∃ (j : Nat) (t' : Int), j ≤ n ∧ i = .int .i64 j ∧ t = .int .i64 t' ∧ t' = k + total (F.take j) ∧ Own2 base wr A n c hs (markF k (F.take j) ++ F.drop j) ∧ Below base w wr) (fun _ i _ => n - (intOf i).toNat)
  case atStart => exact ⟨0, k, Nat.zero_le _, rfl, rfl, by simp [total], by simpa [markF] using H1.out, Below.refl _ _⟩
  case round =>
    clear H1
    obtain ⟨j, t', hj, rfl, rfl, ht, hO, hb⟩ := hrel
    by_cases hlt : j < n
    · have hj0 : (0 : Int) ≤ (j : Int) := by omega
      have hj1 : (j : Int) < (n : Int) := by omega
      have a1 : j < hs.length := by rw [HH.out]; exact hlt
      have a3 : j < F.length := by rw [HF.out]; exact hlt
      have a4 : j < (markF k (F.take j) ++ F.drop j).length := by rw [List.length_append, markF_len, List.length_take, List.length_drop]; omega
      obtain ⟨g, off, rfl, hg, d1⟩ := hO.at_ a1
      have r1 := hO.row j a1 a4
      have l1 := hO.rlen a1 a4
      have l3 := total_take F j a3
      have l4 := total_le F (j + 1)
      have l5 := markF_step k F j a3
      have e4 : (markF k (F.take j) ++ F.drop j)[j]'a4 = F[j] := by
        have hl : (markF k (F.take j)).length = j := by rw [markF_len, List.length_take]; omega
        rw [List.getElem_append_right (by omega)]
        simp [hl]
      rw [e4] at r1 l1
      rw [l1, ← ht] at l5
      rw [l1] at l3
      have P1 : ∀ (w' : World) f, w'.ownsRow base 3 1 (.slice hs[j].1 hs[j].2.1 hs[j].2.2) hs[j].2.1 (vI f) → wr.grownBy w' (ob hs[j].1) → Own2 base w' (some ⟨g, off, none⟩) n c hs ((markF k (F.take j) ++ F.drop j).set j f) := fun w' f => hO.put a1 f
      have P2 : ∀ g, ob hs[j].1 = some g → base ≤ g := fun g e => (own_lt r1 g e).1
      obtain ⟨⟨B1, m1, k1⟩, e1⟩ : ∃ x, hs[j] = x := ⟨_, rfl⟩
      rw [e1] at d1 r1 l3 l5 P1 P2
      dsimp only at d1 r1 l3 l5 P1 P2
      have ht0 : (0 : Int) ≤ t' := by omega
      have ht1 : t' ≤ 1099511627776 := by omega
      have hm1 : m1 ≤ 1099511627776 := by omega
      have ht2 : t' + (m1 : Int) = k + total (F.take (j + 1)) := by rw [ht, l3]; omega
      have HP1 := Lib.hid P1
      have HP2 := Lib.hid P2
      have R1 := Lib.hid r1
      have L5 := Lib.hid l5
      have T2 := Lib.hid ht2
      have HO := Lib.hid hO
      clear e1 e4 l1 l3 l4 l5 r1 hO ht P1 P2 ht2
      go_wp2_with fail
      refine (markIntS_l _ _ _ base t' _ _ R1.out hm1 ht0 ht1).mono ?_
      rintro e w1 ⟨rfl, o1, g1⟩
      have ht3 : (0 : Int) ≤ t' + (m1 : Int) := by omega
      have HO2 := Lib.hid (HP1.out _ _ o1 g1)
      have hb2 : Below base w w1 := hb.grown g1 (Nat.le_trans hbs hb.size) HP2.out
      clear o1 g1
      go_wp2_with fail
      exact ⟨⟨j + 1, t' + (m1 : Int), by omega, by go_num, rfl, T2.out, by rw [← L5.out]; exact HO2.out, hb2⟩, by simp [intOf]; omega⟩
    · have hj1 : ¬ (j : Int) < (n : Int) := by omega
      have hjn : j = n := by omega
      subst hjn
      rw [List.take_of_length_le (by rw [HF.out]; omega)] at hO ht
      rw [List.drop_of_length_le (by rw [HF.out]; omega), List.append_nil] at hO
      have HO := Lib.hid hO
      have HT := Lib.hid ht
      clear hO ht
      go_wp2
      go_ret
      exact ⟨by rw [HT.out]; rfl, HO.out, hb⟩

theorem heldIntSS_l (base : Nat) (A : Option Addr) (n c : Nat) (k : Int) (hs : List H) (F : List (List Int)) (w : World) (h : Own2 base w A n c hs (markF k F)) (hn : n ≤ 1099511627776) (hm : total F ≤ 1048576) (hk0 : 0 ≤ k) (hk1 : k ≤ 1048576) :
    Calls Tryz.prog 27 #[.slice A n c, .int .i64 k] w (Ret w (.int .i64 (k + total F))) := by
  have hfl : F.length = n := by rw [← markF_len k F]; exact h.flen
  have hhl := h.hlen
  have HF := Lib.hid hfl
  have HH := Lib.hid hhl
  have H1 := Lib.hid h
  clear h hfl hhl
  go_enter Tryz.func27, Tryz.ntmps27
  go_wp2
  go_loopw [1, 5] (fun t i wr => ∃ (j : Nat) (t' : Int), j ≤ n ∧ i = .int .i64 j ∧ t = .int .i64 t' ∧ t' = k + total (F.take j) ∧ Below w.heap.size w wr) (fun _ i _ => n - (intOf i).toNat)
  case atStart => exact ⟨0, k, Nat.zero_le _, rfl, rfl, by simp [total], Below.refl _ _⟩
  case round =>
    obtain ⟨j, t', hj, rfl, rfl, ht, hb⟩ := hrel
    by_cases hlt : j < n
    · have hj0 : (0 : Int) ≤ (j : Int) := by omega
      have hj1 : (j : Int) < (n : Int) := by omega
      have a1 : j < hs.length := by rw [HH.out]; exact hlt
      have a3 : j < F.length := by rw [HF.out]; exact hlt
      have a4 : j < (markF k F).length := by rw [markF_len]; exact a3
      have hO := H1.out.below hb
      obtain ⟨g, off, rfl, hg, d1⟩ := hO.at_ a1
      have r1 := hO.rd a1 a4
      have l1 := hO.rlen a1 a4
      have l3 := total_take F j a3
      have l4 := total_le F (j + 1)
      rw [markF_get k F j a3] at r1 l1
      rw [io_length] at l1
      rw [l1] at l3 r1
      rw [← ht] at r1
      obtain ⟨⟨B1, m1, k1⟩, e1⟩ : ∃ x, hs[j] = x := ⟨_, rfl⟩
      rw [e1] at d1 r1 l3
      dsimp only at d1 r1 l3
      have ht0 : (0 : Int) ≤ t' := by omega
      have ht1 : t' ≤ 1099511627776 := by omega
      have hm1 : m1 ≤ 1099511627776 := by omega
      have ht2 : t' + (m1 : Int) = k + total (F.take (j + 1)) := by rw [ht, l3]; omega
      have R1 := Lib.hid r1
      have T2 := Lib.hid ht2
      clear e1 l1 l3 l4 r1 hO ht ht2
      go_wp2_with fail
      refine (heldIntS_l _ _ _ t' _ R1.out hm1 ht0 ht1).mono ?_
      rintro e w1 ⟨rfl, hb1⟩
      have ht3 : ¬ t' + (m1 : Int) < 0 := by omega
      go_wp2_with fail
      exact ⟨⟨j + 1, t' + (m1 : Int), by omega, by go_num, rfl, T2.out, bel_trans hb hb1⟩, by simp [intOf]; omega⟩
    · have hj1 : ¬ (j : Int) < (n : Int) := by omega
      have hjn : j = n := by omega
      subst hjn
      rw [List.take_of_length_le (by rw [HF.out]; omega)] at ht
      have HT := Lib.hid ht
      clear ht
      go_wp2
      go_ret
      exact ⟨by rw [HT.out]; rfl, hb⟩
end Go.Proofs.YtglilkneipfheaaGreat

/- Slices of slices of cells that are the call's own: copied, marked. -/
namespace Go.Proofs.YtglilkneipfheaaGreat
open Go.RowKit
set_option linter.unusedVariables false
attribute [local go_sem ↓] Go.wp_at_zero Go.wp_at_succ
/-- Only blocks in [lo, hi) are written. -/
structure Mid (lo hi : Nat) (w w' : World) : Prop where
  os : w'.os = w.os
  tape : w'.tape = w.tape
  output : w'.output = w.output
  size : w.heap.size ≤ w'.heap.size
  block : ∀ k, k < w.heap.size → (k < lo ∨ hi ≤ k) → w'.heap[k]? = w.heap[k]?
theorem Mid.refl (lo hi : Nat) (w : World) : Mid lo hi w w := ⟨rfl, rfl, rfl, Nat.le_refl _, fun _ _ _ => rfl⟩
theorem Mid.trans {lo hi : Nat} {w w1 w2 : World} (h : Mid lo hi w w1) (k : Mid lo hi w1 w2) : Mid lo hi w w2 :=
  ⟨k.os.trans h.os, k.tape.trans h.tape, k.output.trans h.output, Nat.le_trans h.size k.size, fun i hi2 hb => (k.block i (Nat.lt_of_lt_of_le hi2 h.size) hb).trans (h.block i hi2 hb)⟩
theorem Mid.of_below {lo hi : Nat} {w w1 : World} (h : Below w.heap.size w w1) : Mid lo hi w w1 := ⟨h.os, h.tape, h.output, h.size, fun k hk _ => h.block k hk⟩
theorem Mid.of_grown {lo hi : Nat} {w w1 : World} {row : Option Nat} (h : w.grownBy w1 row) (hr : ∀ g, row = some g → lo ≤ g ∧ g < hi) : Mid lo hi w w1 :=
  ⟨h.os, h.tape, h.output, h.size, fun k hk hb => h.block k hk fun e => by have := hr k e.symm; omega⟩
theorem Mid.below {lo hi : Nat} {w w1 : World} (h : Mid lo hi w w1) (hl : lo ≤ w.heap.size) : Below lo w w1 := ⟨h.os, h.tape, h.output, h.size, fun k hk => h.block k (by omega) (.inl hk)⟩
theorem own_mid {lo hi base e n c size : Nat} {w w1 : World} {A : Option Addr} {xs : List Value} (h : w.ownsRow base e size (.slice A n c) n xs) (hm : Mid lo hi w w1) (hb : hi ≤ base) : w1.ownsRow base e size (.slice A n c) n xs := by
  refine ⟨h.1, ?_⟩
  rcases h.2 with hn | ⟨g, cap, cur, hv, hg, hgg, rest⟩
  · exact .inl hn
  · exact .inr ⟨g, cap, cur, hv, hg, (hm.block g (by
      rcases Nat.lt_or_ge g w.heap.size with h1 | h1
      · exact h1
      · rw [Array.getElem?_eq_none (by omega)] at hgg; cases hgg) (.inr (by omega))).trans hgg, rest⟩
theorem Own2.mid {lo hi base : Nat} {w w1 : World} {B : Option Addr} {n c : Nat} {hs : List H} {F : List (List Int)} (h : Own2 base w B n c hs F) (hm : Mid lo hi w w1) (hb : hi ≤ base) : Own2 base w1 B n c hs F :=
  ⟨own_mid h.own hm hb, h.len, fun k a b => own_mid (h.row k a b) hm hb, h.off, h.sep⟩
/-- Rows of cells of the call's own, below hi. -/
structure OwnC (base hi : Nat) (w : World) (A : Option Addr) (n : Nat) (hs : List H) (F : List (List C)) : Prop where
  top : Rd w A (vS hs)
  hlen : hs.length = n
  flen : F.length = n
  row : ∀ k (a : k < hs.length) (b : k < F.length), w.ownsRow base 94 2 (.slice hs[k].1 hs[k].2.1 hs[k].2.2) hs[k].2.1 (vC F[k])
  lt : ∀ x ∈ hs, ∀ g, ob x.1 = some g → g < hi
  off : ∀ g, ob A = some g → away hs g
  sep : ∀ i j (a : i < hs.length) (b : j < hs.length), i ≠ j → ∀ g, ob hs[i].1 = some g → ob hs[j].1 ≠ some g
section
variable {base hi : Nat} {w w' : World} {A : Option Addr} {n : Nat} {hs : List H} {F : List (List C)}
theorem OwnC.rlen (h : OwnC base hi w A n hs F) {k : Nat} (a : k < hs.length) (b : k < F.length) : F[k].length = hs[k].2.1 := by have := own_len (h.row k a b); rw [vC_length] at this; omega
theorem OwnC.rdp (h : OwnC base hi w A n hs F) : RdP w A n hs F := ⟨h.top, h.hlen, h.flen, fun k a b => ⟨h.rlen a b, Rd.of_own (h.row k a b)⟩⟩
theorem OwnC.below (h : OwnC base hi w A n hs F) (hb : Below w.heap.size w w') : OwnC base hi w' A n hs F :=
  ⟨h.top.below hb, h.hlen, h.flen, fun k a b => own_keep (h.row k a b) hb, h.lt, h.off, h.sep⟩
theorem OwnC.grown {row : Option Nat} (h : OwnC base hi w A n hs F) (hg : w.grownBy w' row) (hn : ∀ g, row = some g → g < base) (hA : ∀ g, ob A = some g → base ≤ g) : OwnC base hi w' A n hs F :=
  ⟨h.top.grown hg (fun g e r => by have := hA g e; have := hn g r.symm; omega), h.hlen, h.flen, fun k a b => own_kept (h.row k a b) hg fun g e r => by have := (own_lt (h.row k a b) g e).1; have := hn g r; omega, h.lt, h.off, h.sep⟩
theorem OwnC.put (h : OwnC base hi w A n hs F) {k : Nat} (a : k < hs.length) (f : List C) (hr : w'.ownsRow base 94 2 (.slice hs[k].1 hs[k].2.1 hs[k].2.2) hs[k].2.1 (vC f)) (hg : w.grownBy w' (ob hs[k].1)) : OwnC base hi w' A n hs (F.set k f) := by
  refine ⟨h.top.grown hg (fun g e r => h.off g e _ (List.getElem_mem a) r.symm), h.hlen, by simpa using h.flen, fun j a' b' => ?_, h.lt, h.off, h.sep⟩
  by_cases e : k = j
  · subst e
    rw [List.getElem_set_self]
    exact hr
  · rw [List.getElem_set_ne e]
    exact own_kept (h.row j a' (by simpa using b')) hg fun g e1 r => h.sep k j a a' e g r e1
end
theorem own_set_farK {w : World} {base e n c size b k : Nat} {A : Option Addr} {xs : List Value} {u : Value} (h : w.ownsRow base e size (.slice A n c) n xs) (hb : b < base) : (w.setCell ⟨b, k, none⟩ u).ownsRow base e size (.slice A n c) n xs := by
  refine ⟨h.1, ?_⟩
  rcases h.2 with hn | ⟨g, cap, cur, hv, hg, hgg, rest⟩
  · exact .inl hn
  · exact .inr ⟨g, cap, cur, hv, hg, (Below.heap_setCell w _ u g (by show g ≠ b; omega)).trans hgg, rest⟩
/-- A copy of slices of cells: all of it the call's own. -/
def RetPC (w : World) (n : Nat) (F : List (List C)) (e : Ending) (w' : World) : Prop :=
  ∃ qs c', e = .returned (.slice (some ⟨w.heap.size, 0, none⟩) n c') ∧ OwnC w.heap.size w'.heap.size w' (some ⟨w.heap.size, 0, none⟩) n qs F ∧ Below w.heap.size w w'
set_option maxHeartbeats 1600000 in
theorem toCellSSo_l (A : Option Addr) (n c : Nat) (hs : List H) (F : List (List C)) (w : World) (h : RdP w A n hs F) (hn : n ≤ 1048576) (hm : totC F ≤ 1048576) :
    Calls Tryz.prog 13 #[.slice A n c] w (RetPC w n F) := by
  have hmk := mk_CS w n hn
  have HP := Lib.hid h
  clear h
  go_enter Tryz.func13, Tryz.ntmps13
  go_wp2
  go_loopw [4] (fun i wr => ∃ (k : Nat) (qs : List H), k ≤ n ∧ i = .int .i64 k ∧ qs.length = k ∧ Blk wr w.heap.size 59 (vS (qs ++ zeS (n - k))).toArray ∧ (∀ (i : Nat) (x : H) (f : List C), qs[i]? = some x → F[i]? = some f → wr.ownsRow (w.heap.size + 1) 94 2 (.slice x.1 x.2.1 x.2.2) x.2.1 (vC f)) ∧ (∀ (i j : Nat) (x y : H), i ≠ j → qs[i]? = some x → qs[j]? = some y → ∀ g, ob x.1 = some g → ob y.1 ≠ some g) ∧ (∀ x ∈ qs, ∀ g, ob x.1 = some g → g < wr.heap.size) ∧ Below w.heap.size w wr) (fun i _ => n - (intOf i).toNat)
  case atStart => exact ⟨0, [], Nat.zero_le _, rfl, rfl, Blk.new _ _ _, fun i x f h => by simp at h, fun i j x y _ h => by simp at h, fun x hx => by simp at hx, (by (repeat (first | with_reducible exact Below.refl _ _ | with_reducible assumption | with_reducible apply bel_alloc | with_reducible apply bel_drew | with_reducible apply bel_drewN | ((with_reducible refine bel_set ?_ ?_); rotate_left; (simp <;> omega)) | (with_reducible refine bel_trans ?_ (by with_reducible assumption)))))⟩
  case round =>
    clear hmk
    obtain ⟨k, qs, hk, rfl, hql, hB, hq, hsp, hlt2, hb⟩ := hrel
    by_cases hlt : k < n
    · have hk0 : (0 : Int) ≤ (k : Int) := by omega
      have hk1 : (k : Int) < (n : Int) := by omega
      obtain ⟨x, f, g, off, hsx, hfx, rfl, hg, c1, hfl, hrd⟩ := (HP.out.below hb).at_ hlt
      have hfm := totC_row F hfx
      obtain ⟨B1, m1, k1⟩ := x
      dsimp only at c1 hfl hrd
      have hm1 : m1 ≤ 1048576 := by omega
      have hgw := hB.lt
      have HB := Lib.hid hB
      have HQ := Lib.hid hq
      have HSP := Lib.hid hsp
      have HLT := Lib.hid hlt2
      have HQL := Lib.hid hql
      have HFX := Lib.hid hfx
      have HFL := Lib.hid hfl
      have HRD := Lib.hid hrd
      clear hsx hfx hfl hrd hB hq hql hfm hsp hlt2
      go_wp2_with fail
      refine (toCellS_l _ _ _ f _ HRD.out HFL.out hm1).mono ?_
      rintro e w1 ⟨D, q, cq, rfl, ho, hb1⟩
      have hqf : q = m1 := by have := own_len ho; rw [vC_length] at this; have := HFL.out; omega
      subst hqf
      have hB1 := HB.out.below hb1
      have hkl : k < (qs ++ zeS (n - k)).length := by rw [List.length_append, zeS_length, HQL.out]; omega
      have d1 := blkS_cell hB1 hkl
      have e4 : (qs ++ zeS (n - k))[k]'hkl = (none, 0, 0) := by
        have := HQL.out
        rw [List.getElem_append_right (by omega)]
        simp [zeS]
      rw [e4] at d1
      dsimp only at d1
      have f1 := hB1.frozen k
      have hst := blkS_set hB1 k D q cq
      have e5 : (qs ++ zeS (n - k)).set k (D, q, cq) = (qs ++ [(D, q, cq)]) ++ zeS (n - (k + 1)) := by
        have := HQL.out
        rw [List.set_append_right _ _ (by omega), this, Nat.sub_self, show n - k = (n - (k + 1)) + 1 from by omega]
        simp [zeS, List.replicate_succ]
      rw [e5] at hst
      have HST := Lib.hid hst
      have HO := Lib.hid ho
      have HB1 := Lib.hid hB1
      have hgw1 : w.heap.size < w1.heap.size := hB1.lt
      clear e4 e5 hst ho hB1 hkl
      go_wp2_with fail
      have hsz1 := hb1.size
      have hget : ∀ (i : Nat) (y : H), (qs ++ [(D, q, cq)])[i]? = some y → (i < qs.length ∧ qs[i]? = some y) ∨ (i = k ∧ y = (D, q, cq)) := fun i y hy => by
        by_cases hi : i < qs.length
        · rw [List.getElem?_append_left hi] at hy
          exact .inl ⟨hi, hy⟩
        · have hik : i = k := by
            have h1 : i < (qs ++ [(D, q, cq)]).length := (List.getElem?_eq_some_iff.1 hy).1
            have := HQL.out
            simp at h1; omega
          subst hik
          have := HQL.out
          rw [List.getElem?_append_right (by omega), this, Nat.sub_self] at hy
          simp at hy
          exact .inr ⟨rfl, hy.symm⟩
      refine ⟨⟨k + 1, qs ++ [(D, q, cq)], by omega, by go_num, by simp [HQL.out], HST.out, ?_, ?_, ?_, (by (repeat (first | with_reducible exact Below.refl _ _ | with_reducible assumption | with_reducible apply bel_alloc | with_reducible apply bel_drew | with_reducible apply bel_drewN | ((with_reducible refine bel_set ?_ ?_); rotate_left; (simp <;> omega)) | (with_reducible refine bel_trans ?_ (by with_reducible assumption)))))⟩, by simp [intOf]; omega⟩
      · intro i y f' hy hf'
        rcases hget i y hy with ⟨hi, hy⟩ | ⟨rfl, rfl⟩
        · exact own_set_farK (own_keep (HQ.out i y f' hy hf') hb1) (by omega)
        · have : f' = f := by have := HFX.out; rw [hf'] at this; injection this
          subst this
          exact own_set_farK (own_mono2 HO.out (by omega)) (by omega)
      · intro i j x y hij hx hy g' e
        rcases hget i x hx with ⟨hi, hx⟩ | ⟨rfl, rfl⟩
        · rcases hget j y hy with ⟨hj, hy⟩ | ⟨rfl, rfl⟩
          · exact HSP.out i j x y hij hx hy g' e
          · intro r
            have h1 := HLT.out x (List.mem_of_getElem? hx) g' e
            have h2 := (own_lt HO.out g' r).1
            omega
        · rcases hget j y hy with ⟨hj, hy⟩ | ⟨rfl, rfl⟩
          · intro r
            have h1 := HLT.out y (List.mem_of_getElem? hy) g' r
            have h2 := (own_lt HO.out g' e).1
            omega
          · omega
      · intro x hx g' e
        rw [World.size_setCell]
        rcases List.mem_append.1 hx with hx | hx
        · have := HLT.out x hx g' e
          omega
        · simp only [List.mem_singleton] at hx
          subst hx
          exact (own_lt HO.out g' e).2
    · have hkn : k = n := by omega
      subst hkn
      rw [Nat.sub_self, show zeS 0 = [] from rfl, List.append_nil] at hB
      have ho := own_blk hB (base := w.heap.size) (size := 1) (n := k) (by simp [vS_length, hql]) (Nat.le_refl _) (by unfold maxLen; omega)
      have hP : OwnC w.heap.size wr.heap.size wr (some ⟨w.heap.size, 0, none⟩) k qs F := ⟨by simpa using Rd.of_own ho, hql, HP.out.flen, fun i a b => own_mono2 (hq i _ _ (List.getElem?_eq_getElem a) (List.getElem?_eq_getElem b)) (by omega), hlt2, fun g e x hx r => by
        simp only [ob, Option.map_some, Option.some.injEq] at e
        subst e
        obtain ⟨t, ht, rfl⟩ := List.mem_iff_getElem.1 hx
        have := (own_lt (hq t _ _ (List.getElem?_eq_getElem ht) (List.getElem?_eq_getElem (by rw [HP.out.flen]; omega))) _ r).1
        omega, fun i j a b hij g e => hsp i j _ _ hij (List.getElem?_eq_getElem a) (List.getElem?_eq_getElem b) g e⟩
      have HR := Lib.hid hP
      have hk1 : ¬ (k : Int) < (k : Int) := by omega
      clear hB hq ho hP hql hsp hlt2
      go_wp2
      go_ret
      exact ⟨qs, _, rfl, HR.out, hb⟩
set_option maxHeartbeats 1600000 in
theorem markCellSS_l (base hi : Nat) (A : Option Addr) (n c : Nat) (k : Int) (hs : List H) (F : List (List C)) (w : World) (h : OwnC base hi w A n hs F) (hbs : base ≤ w.heap.size) (hn : n ≤ 1048576) (hm : totC F ≤ 1048576) (hk0 : 0 ≤ k) (hk1 : k ≤ 1048577) :
    Calls Tryz.prog 25 #[.slice A n c, .int .i64 k] w (fun e w' => e = .returned (.int .i64 (k + 2 * totC F)) ∧ Mid base hi w w') := by
  have HFL := Lib.hid h.flen
  have HHL := Lib.hid h.hlen
  have H1 := Lib.hid h
  clear h
  go_enter Tryz.func25, Tryz.ntmps25
  go_wp2
  go_loopw [1, 5] (fun t i wr => ∃ (j : Nat) (t' : Int) (F' : List (List C)), j ≤ n ∧ i = .int .i64 j ∧ t = .int .i64 t' ∧ t' = k + 2 * totC (F.take j) ∧ F'.map List.length = F.map List.length ∧ OwnC base hi wr A n hs F' ∧ Mid base hi w wr) (fun _ i _ => n - (intOf i).toNat)
  case atStart => exact ⟨0, k, F, Nat.zero_le _, rfl, rfl, by simp [totC], rfl, H1.out, Mid.refl _ _ _⟩
  case round =>
    clear H1
    obtain ⟨j, t', F', hj, rfl, rfl, ht, hlen, hO, hb⟩ := hrel
    by_cases hlt : j < n
    · have hj0 : (0 : Int) ≤ (j : Int) := by omega
      have hj1 : (j : Int) < (n : Int) := by omega
      have a1 : j < hs.length := by rw [HHL.out]; exact hlt
      have a3 : j < F.length := by rw [HFL.out]; exact hlt
      have a4 : j < F'.length := by rw [hO.flen]; exact hlt
      obtain ⟨g, off, rfl, hg, d1⟩ := RdS.at_ hO.top a1
      have r1 := hO.row j a1 a4
      have l1 := hO.rlen a1 a4
      have hl2 : F'[j].length = F[j].length := by
        have h2 : (F'.map List.length)[j]? = (F.map List.length)[j]? := by rw [hlen]
        simpa [a3, a4] using h2
      have l3 := totC_take F j a3
      have l4 := totC_le F (j + 1)
      have P1 : ∀ (w' : World) f, w'.ownsRow base 94 2 (.slice hs[j].1 hs[j].2.1 hs[j].2.2) hs[j].2.1 (vC f) → wr.grownBy w' (ob hs[j].1) → OwnC base hi w' (some ⟨g, off, none⟩) n hs (F'.set j f) := fun w' f => hO.put a1 f
      have P2 : ∀ g, ob hs[j].1 = some g → base ≤ g ∧ g < hi := fun g e => ⟨(own_lt r1 g e).1, hO.lt _ (List.getElem_mem a1) g e⟩
      have P3 : ∀ f : List C, f.length = hs[j].2.1 → (F'.set j f).map List.length = F.map List.length := fun f hf => by
        rw [← hlen]
        apply List.ext_getElem (by simp)
        intro i h5 h6
        simp only [List.getElem_map]
        by_cases e : j = i
        · subst e; rw [List.getElem_set_self, hf, ← l1]
        · rw [List.getElem_set_ne e]
      obtain ⟨⟨B1, m1, k1⟩, e1⟩ : ∃ x, hs[j] = x := ⟨_, rfl⟩
      rw [e1] at d1 r1 l1 P1 P2 P3
      dsimp only at d1 r1 l1 P1 P2 P3
      have hm1 : F[j].length = m1 := by omega
      have ht0 : (0 : Int) ≤ t' := by omega
      have ht1 : t' ≤ 1099511627776 := by omega
      have hmm : m1 ≤ 1099511627776 := by omega
      have ht2 : t' + 2 * (m1 : Int) = k + 2 * totC (F.take (j + 1)) := by rw [ht, l3]; omega
      have ht4 : t' + 2 * (m1 : Int) ≤ 9000000 := by omega
      have HP1 := Lib.hid P1
      have HP2 := Lib.hid P2
      have HP3 := Lib.hid P3
      have R1 := Lib.hid r1
      have T2 := Lib.hid ht2
      have HB := Lib.hid hb
      clear e1 l1 l3 l4 r1 hO ht P1 P2 P3 ht2 hm1 hl2 hlen hb
      go_wp2_with fail
      refine (markCellS_l _ _ _ base t' _ _ R1.out hmm ht0 ht1).mono ?_
      rintro e w1 ⟨rfl, o1, g1⟩
      have ht3 : (0 : Int) ≤ t' + 2 * (m1 : Int) := by omega
      have HO2 := Lib.hid (HP1.out _ _ o1 g1)
      have HM := Lib.hid (HB.out.trans (Mid.of_grown g1 HP2.out))
      have HL3 := Lib.hid (HP3.out (ioC t' m1) (ioC_length _ _))
      clear o1 g1
      go_wp2_with fail
      exact ⟨⟨j + 1, t' + 2 * (m1 : Int), _, by omega, by go_num, rfl, T2.out, HL3.out, HO2.out, HM.out⟩, by simp [intOf]; omega⟩
    · have hj1 : ¬ (j : Int) < (n : Int) := by omega
      have hjn : j = n := by omega
      subst hjn
      rw [List.take_of_length_le (by rw [HFL.out]; omega)] at ht
      have HT := Lib.hid ht
      have HB := Lib.hid hb
      clear ht hlen hO hb
      go_wp2
      go_ret
      exact ⟨by rw [← HT.out]; rfl, HB.out⟩
end Go.Proofs.YtglilkneipfheaaGreat

/- The law on FnExactFewestHints. -/
namespace Go.Proofs.YtglilkneipfheaaGreat
open Go.RowKit
set_option linter.unusedVariables false
attribute [local go_sem ↓] Go.wp_at_zero Go.wp_at_succ
set_option maxRecDepth 100000 in
set_option maxHeartbeats 3200000 in
theorem law_FnExactFewestHints (W : Int) (A : Option Addr) (n c : Nat) (rows : List Int) (B : Option Addr) (q cb : Nat) (P : List (List C)) (D : Option Addr) (k cd : Nat) (l : List Int) (w : World) (hr : Rd w A (vI rows)) (hl : rows.length = n) (hm : n ≤ maxLen) (hrP : ∃ hs, RdP w B q hs P ∧ ∀ x ∈ hs, x.2.1 ≤ maxLen) (hlP : P.length = q) (hmP : q ≤ maxLen) (hrI : Rd w D (vI l)) (hlI : l.length = k) (hmI : k ≤ maxLen) :
    Calls Tryz.prog 6 #[.agg #[.int .i64 W, .slice A n c], .slice B q cb, .slice D k cd] w (Ret w (.bool true)) := by
  obtain ⟨hs, hP, hxl⟩ := hrP
  by_cases hbI : (1048576 : Int) < (k : Int)
  · have hbI2 : (k : Int) > 1048576 := hbI
    go_enter Tryz.func6, Tryz.ntmps6
    go_wp2_with fail
    go_ret
    exact ⟨rfl, (by (repeat (first | with_reducible exact Below.refl _ _ | with_reducible assumption | with_reducible apply bel_alloc | with_reducible apply bel_drew | with_reducible apply bel_drewN | ((with_reducible refine bel_set ?_ ?_); rotate_left; (simp <;> omega)) | (with_reducible refine bel_trans ?_ (by with_reducible assumption)))))⟩
  · have hk : k ≤ 1048576 := by omega
    have hbI2 : ¬ (k : Int) > 1048576 := hbI
    have HLI := Lib.hid hlI
    have HRI := Lib.hid hrI
    clear hbI hlI hrI hmI
    have HL := Lib.hid hl
    have HX := Lib.hid hxl
    have HP := Lib.hid hP
    have HMP := Lib.hid hmP
    have HA0 := Lib.hid (Blk.new w 24 #[.int .i64 W, .slice A n c])
    have hv7 : (fewV W rows P l).length ≤ 1048576 := by have := fewV_len W rows P l; omega
    obtain ⟨F, hv⟩ : ∃ F, fewV W rows P l = F := ⟨_, rfl⟩
    obtain ⟨bb, hbb⟩ : ∃ bb, (solV W rows P l) = bb := ⟨_, rfl⟩
    have HBB := Lib.hid hbb
    rw [hv] at hv7
    have HV := Lib.hid hv
    have hne1 : (bb != bb) = false := by cases bb <;> rfl
    clear hv hbb
    clear hl hxl hP hlP hmP
    by_cases hbig : (1048576 : Int) < (n : Int)
    · have HS : Hid (szR 1048576 n = -1) := if_pos hbig
      clear hbig
      go_enter Tryz.func6, Tryz.ntmps6
      go_wp2_with fail
      refine (szRegion_l W A n c 1048576 _ hm (by omega) (by omega)).mono ?_
      rw [HS.out]
      rintro e w1 ⟨rfl, hb1⟩
      go_wp2_with fail
      go_ret
      exact ⟨rfl, (by (repeat (first | with_reducible exact Below.refl _ _ | with_reducible assumption | with_reducible apply bel_alloc | with_reducible apply bel_drew | with_reducible apply bel_drewN | ((with_reducible refine bel_set ?_ ?_); rotate_left; (simp <;> omega)) | (with_reducible refine bel_trans ?_ (by with_reducible assumption)))))⟩
    · have hn : n ≤ 1048576 := by omega
      have HS : Hid (szR 1048576 n = 1048576 - n) := if_neg hbig
      have hsz : ¬ (1048576 - (n : Int)) < 0 := by omega
      clear hbig
      obtain ⟨z, hz⟩ : ∃ z, szP (1048576 - (n : Int)) q P = z := ⟨_, rfl⟩
      have HZ := Lib.hid hz
      by_cases hz0 : z < 0
      · clear hz
        go_enter Tryz.func6, Tryz.ntmps6
        go_wp2_with fail
        refine (szRegion_l W A n c 1048576 _ hm (by omega) (by omega)).mono ?_
        rw [HS.out]
        rintro e w1 ⟨rfl, hb1⟩
        go_wp2_with fail
        refine (szCellSS_l B q cb (1048576 - (n : Int)) hs P _ (HP.out.below (by (repeat (first | with_reducible exact Below.refl _ _ | with_reducible assumption | with_reducible apply bel_alloc | with_reducible apply bel_drew | with_reducible apply bel_drewN | ((with_reducible refine bel_set ?_ ?_); rotate_left; (simp <;> omega)) | (with_reducible refine bel_trans ?_ (by with_reducible assumption)))))) HX.out HMP.out (by omega) (by omega)).mono ?_
        rw [HZ.out]
        rintro e w2 ⟨rfl, hb2⟩
        go_wp2_with fail
        go_ret
        exact ⟨rfl, (by (repeat (first | with_reducible exact Below.refl _ _ | with_reducible assumption | with_reducible apply bel_alloc | with_reducible apply bel_drew | with_reducible apply bel_drewN | ((with_reducible refine bel_set ?_ ?_); rotate_left; (simp <;> omega)) | (with_reducible refine bel_trans ?_ (by with_reducible assumption)))))⟩
      · have hqt : q ≤ 1048576 ∧ totC P ≤ 1048576 := by
          unfold szP at hz
          split at hz
          · omega
          · have := szRows_ok _ P (by rw [hz]; omega : 0 ≤ szRows (1048576 - (n : Int) - (q : Int)) P)
            omega
        obtain ⟨hq, ht⟩ := hqt
        have HT := Lib.hid ht
        clear hz ht
        go_enter Tryz.func6, Tryz.ntmps6
        go_wp2_with fail
        refine (szRegion_l W A n c 1048576 _ hm (by omega) (by omega)).mono ?_
        rw [HS.out]
        rintro e w1 ⟨rfl, hb1⟩
        have HA1 := Lib.hid (HA0.out.below hb1); (try clear a0 a1 al); have a0 : w1.cell? ⟨w.heap.size, 0, none⟩ = some (.int .i64 W) := (by simpa using HA1.out.cell 0); have a1 : w1.cell? ⟨w.heap.size, 1, none⟩ = some (.slice A n c) := (by simpa using HA1.out.cell 1); have al : w.heap.size < w1.heap.size := HA1.out.lt
        have g1 : Below w.heap.size w w1 := (by (repeat (first | with_reducible exact Below.refl _ _ | with_reducible assumption | with_reducible apply bel_alloc | with_reducible apply bel_drew | with_reducible apply bel_drewN | ((with_reducible refine bel_set ?_ ?_); rotate_left; (simp <;> omega)) | (with_reducible refine bel_trans ?_ (by with_reducible assumption)))))
        go_wp2_with fail
        refine (szCellSS_l B q cb (1048576 - (n : Int)) hs P _ (HP.out.below g1) HX.out HMP.out (by omega) (by omega)).mono ?_
        rw [HZ.out]
        rintro e w2 ⟨rfl, hb2⟩
        have HA2 := Lib.hid (HA1.out.below hb2); (try clear a0 a1 al); have a0 : w2.cell? ⟨w.heap.size, 0, none⟩ = some (.int .i64 W) := (by simpa using HA2.out.cell 0); have a1 : w2.cell? ⟨w.heap.size, 1, none⟩ = some (.slice A n c) := (by simpa using HA2.out.cell 1); have al : w.heap.size < w2.heap.size := HA2.out.lt
        have g2 := bel_trans g1 hb2
        go_wp2_with fail
        refine (toRegion_l W A n c rows _ (hr.below g2) HL.out hn).mono ?_
        rintro e w3 ⟨Y, ny, cy, rfl, oY, hb3⟩
        obtain rfl : n = ny := HL.out.symm.trans (own_nI oY)
        have HY := Lib.hid (Rd.of_own oY)
        clear oY
        have HA3 := Lib.hid (HA2.out.below hb3); (try clear a0 a1 al); have a0 : w3.cell? ⟨w.heap.size, 0, none⟩ = some (.int .i64 W) := (by simpa using HA3.out.cell 0); have a1 : w3.cell? ⟨w.heap.size, 1, none⟩ = some (.slice A n c) := (by simpa using HA3.out.cell 1); have al : w.heap.size < w3.heap.size := HA3.out.lt
        have g3 := bel_trans g2 hb3
        go_wp2_with fail
        refine (toCellSS_l B q cb hs P _ (HP.out.below g3) hq HT.out).mono ?_
        rintro e w4 ⟨YP, cyp, hsY, rfl, oYP, hb4⟩
        have HYP := Lib.hid oYP
        clear oYP
        have HA4 := Lib.hid (HA3.out.below hb4); (try clear a0 a1 al); have a0 : w4.cell? ⟨w.heap.size, 0, none⟩ = some (.int .i64 W) := (by simpa using HA4.out.cell 0); have a1 : w4.cell? ⟨w.heap.size, 1, none⟩ = some (.slice A n c) := (by simpa using HA4.out.cell 1); have al : w.heap.size < w4.heap.size := HA4.out.lt
        have g4 := bel_trans g3 hb4
        go_wp2_with fail
        refine (toIntS_l D k cd l _ (HRI.out.below g4) HLI.out hk).mono ?_
        rintro e w5 ⟨YI, ky, cyi, rfl, oYI, hb5⟩
        obtain rfl : k = ky := HLI.out.symm.trans (own_nI oYI)
        have HYI := Lib.hid (Rd.of_own oYI)
        clear oYI
        have HA5 := Lib.hid (HA4.out.below hb5); (try clear a0 a1 al); have a0 : w5.cell? ⟨w.heap.size, 0, none⟩ = some (.int .i64 W) := (by simpa using HA5.out.cell 0); have a1 : w5.cell? ⟨w.heap.size, 1, none⟩ = some (.slice A n c) := (by simpa using HA5.out.cell 1); have al : w.heap.size < w5.heap.size := HA5.out.lt
        have g5 := bel_trans g4 hb5
        go_wp2_with fail
        refine (FewestHints_s W Y YP YI n cy q cyp k cyi rows l hsY P _ ((HY.out.below hb4).below hb5) HL.out (HYP.out.below hb5) hq HT.out HYI.out HLI.out hk).mono ?_
        rw [HV.out, HBB.out]
        rintro e w6 ⟨Wt, mw, kw, rfl, ow, hb6⟩
        have HOW := Lib.hid ow
        have hmw : F.length = mw := by have h1 := own_len ow; rw [vI_length] at h1; omega
        have HFW := Lib.hid hmw
        clear ow
        have HA6 := Lib.hid (HA5.out.below hb6); (try clear a0 a1 al); have a0 : w6.cell? ⟨w.heap.size, 0, none⟩ = some (.int .i64 W) := (by simpa using HA6.out.cell 0); have a1 : w6.cell? ⟨w.heap.size, 1, none⟩ = some (.slice A n c) := (by simpa using HA6.out.cell 1); have al : w.heap.size < w6.heap.size := HA6.out.lt
        have g6 := bel_trans g5 hb6
        go_wp2_with fail
        refine (toRegion_l W A n c rows _ (hr.below g6) HL.out hn).mono ?_
        rintro e w7 ⟨X, nx, cx, rfl, ox, hb7⟩
        obtain rfl : n = nx := HL.out.symm.trans (own_nI ox)
        have HOX := Lib.hid ox
        clear ox
        have HA7 := Lib.hid (HA6.out.below hb7); (try clear a0 a1 al); have a0 : w7.cell? ⟨w.heap.size, 0, none⟩ = some (.int .i64 W) := (by simpa using HA7.out.cell 0); have a1 : w7.cell? ⟨w.heap.size, 1, none⟩ = some (.slice A n c) := (by simpa using HA7.out.cell 1); have al : w.heap.size < w7.heap.size := HA7.out.lt
        have g7 := bel_trans g6 hb7
        have HX7 := Lib.hid (Blk.new w7 29 #[.int .i64 W, .slice X n cx])
        have b78 : Below w7.heap.size w7 (w7.alloc (.cells #[.int .i64 W, .slice X n cx] 29)) := bel_alloc (Below.refl _ _) _
        go_wp2_with fail
        refine (toCellSSo_l B q cb hs P _ ((HP.out.below g7).below b78) hq HT.out).mono ?_
        rintro e w8 ⟨hsX, cxp, rfl, oXP, hb8⟩
        have HWS : Hid ((w7.alloc (.cells #[.int .i64 W, .slice X n cx] 29)).heap.size = w7.heap.size + 1) := by show _ = _; simp
        rw [HWS.out] at oXP
        rw [HWS.out]
        obtain ⟨XP, hXP⟩ : ∃ XP, some (⟨w7.heap.size + 1, 0, none⟩ : Addr) = XP := ⟨_, rfl⟩
        have HXPE := Lib.hid hXP
        rw [hXP] at oXP ⊢
        clear hXP
        have HXP := Lib.hid oXP
        clear oXP
        have b8 := bel_trans b78 hb8
        have HA8 := Lib.hid (HA7.out.below b8); (try clear a0 a1 al); have a0 : w8.cell? ⟨w.heap.size, 0, none⟩ = some (.int .i64 W) := (by simpa using HA8.out.cell 0); have a1 : w8.cell? ⟨w.heap.size, 1, none⟩ = some (.slice A n c) := (by simpa using HA8.out.cell 1); have al : w.heap.size < w8.heap.size := HA8.out.lt
        have HX8 := Lib.hid (HX7.out.below hb8); (try clear x0 x1 xl); have x0 : w8.cell? ⟨w7.heap.size, 0, none⟩ = some (.int .i64 W) := (by simpa using HX8.out.cell 0); have x1 : w8.cell? ⟨w7.heap.size, 1, none⟩ = some (.slice X n cx) := (by simpa using HX8.out.cell 1); have xl : w7.heap.size < w8.heap.size := HX8.out.lt
        have g8 := bel_trans g7 b8
        go_wp2_with fail
        refine (toIntS_l D k cd l _ (HRI.out.below g8) HLI.out hk).mono ?_
        rintro e w9 ⟨XI, kx, cxi, rfl, oXI, hb9⟩
        obtain rfl : k = kx := HLI.out.symm.trans (own_nI oXI)
        have HOXI := Lib.hid oXI
        have HXI := Lib.hid (Rd.of_own oXI)
        clear oXI
        have HA9 := Lib.hid (HA8.out.below hb9); (try clear a0 a1 al); have a0 : w9.cell? ⟨w.heap.size, 0, none⟩ = some (.int .i64 W) := (by simpa using HA9.out.cell 0); have a1 : w9.cell? ⟨w.heap.size, 1, none⟩ = some (.slice A n c) := (by simpa using HA9.out.cell 1); have al : w.heap.size < w9.heap.size := HA9.out.lt
        have HX9 := Lib.hid (HX8.out.below hb9); (try clear x0 x1 xl); have x0 : w9.cell? ⟨w7.heap.size, 0, none⟩ = some (.int .i64 W) := (by simpa using HX9.out.cell 0); have x1 : w9.cell? ⟨w7.heap.size, 1, none⟩ = some (.slice X n cx) := (by simpa using HX9.out.cell 1); have xl : w7.heap.size < w9.heap.size := HX9.out.lt
        have g9 := bel_trans g8 hb9
        have b9 := bel_trans b8 hb9
        go_wp2_with fail
        refine (FewestHints_i W X XP XI n cx q cxp k cxi rows l hsX P _ ((Rd.of_own HOX.out).below b9) HL.out (HXP.out.rdp.below hb9) hq HT.out HXI.out HLI.out hk).mono ?_
        rw [HV.out, HBB.out]
        rintro e w10 ⟨G, mg, kg, rfl, og, hb10⟩
        have HOG := Lib.hid og
        have hmg : F.length = mg := by have h1 := own_len og; rw [vI_length] at h1; omega
        have HFG := Lib.hid hmg
        have hmg2 : mg ≤ 1048576 := by omega
        have hmw2 : mw ≤ 1048576 := by omega
        have hmg3 : mg ≤ 1099511627776 := by omega
        clear og hmg hmw
        have HA10 := Lib.hid (HA9.out.below hb10); (try clear a0 a1 al); have a0 : w10.cell? ⟨w.heap.size, 0, none⟩ = some (.int .i64 W) := (by simpa using HA10.out.cell 0); have a1 : w10.cell? ⟨w.heap.size, 1, none⟩ = some (.slice A n c) := (by simpa using HA10.out.cell 1); have al : w.heap.size < w10.heap.size := HA10.out.lt
        have HX10 := Lib.hid (HX9.out.below hb10); (try clear x0 x1 xl); have x0 : w10.cell? ⟨w7.heap.size, 0, none⟩ = some (.int .i64 W) := (by simpa using HX10.out.cell 0); have x1 : w10.cell? ⟨w7.heap.size, 1, none⟩ = some (.slice X n cx) := (by simpa using HX10.out.cell 1); have xl : w7.heap.size < w10.heap.size := HX10.out.lt
        have b06 := bel_trans g9 hb10
        have b710 := bel_trans b9 hb10
        have b610 : Below w6.heap.size w6 w10 := bel_trans hb7 b710
        go_wp2_with fail
        refine (eqIntS_t _ _ _ _ _ _ F _ (Rd.of_own (HOG.out)) (Rd.of_own (own_keep HOW.out b610)) HFG.out HFW.out hmg3).mono ?_
        rintro e w20 ⟨rfl, hb20⟩
        have HA20 := Lib.hid (HA10.out.below hb20); (try clear a0 a1 al); have a0 : w20.cell? ⟨w.heap.size, 0, none⟩ = some (.int .i64 W) := (by simpa using HA20.out.cell 0); have a1 : w20.cell? ⟨w.heap.size, 1, none⟩ = some (.slice A n c) := (by simpa using HA20.out.cell 1); have al : w.heap.size < w20.heap.size := HA20.out.lt
        have HX20 := Lib.hid (HX10.out.below hb20); (try clear x0 x1 xl); have x0 : w20.cell? ⟨w7.heap.size, 0, none⟩ = some (.int .i64 W) := (by simpa using HX20.out.cell 0); have x1 : w20.cell? ⟨w7.heap.size, 1, none⟩ = some (.slice X n cx) := (by simpa using HX20.out.cell 1); have xl : w7.heap.size < w20.heap.size := HX20.out.lt
        have b06 := bel_trans b06 hb20
        have b720 := bel_trans b710 hb20
        go_wp2_with fail; (refine wp_region_tailN (C := ExC w20) 2 (by kernel_rfl) (by kernel_rfl) (ExC.drawn _) (fun _ _ h k => ExC.ext h k) ?_; simp only [List.take_succ_cons, List.take_zero, List.drop_succ_cons, List.drop_zero]; (repeat (first | (refine headSkip (by rfl) rfl ?_; simp only [List.setIfInBounds_toArray, List.set_cons_zero, List.set_cons_succ]) | (refine headV (v := ?_) (by rfl) rfl (fun w' hcw => ?_) ?_; rotate_left; ((try dsimp only at hcw); have hbc := hcw.cells; go_simp; first | done | with_reducible rfl | fail); simp only [List.setIfInBounds_toArray, List.set_cons_zero, List.set_cons_succ]))); unfold wpHead); refine tailK (by rfl) (fun u7 hc7 he7 K hK => ?_); go_simp; refine (toRegion_l W A n c rows _ (hr.below (bel_trans b06 hc7)) HL.out hn).mono ?_; rintro e u8 ⟨Z, q3, cz, rfl, oz, hz8⟩; obtain rfl : n = q3 := (HL.out).symm.trans (own_nI oz); have hu8 := bel_trans hc7 hz8; have HOZ := Lib.hid oz; clear oz; refine hK _ _ hu8 ?_; clear hK K; refine tailK (by rfl) (fun u9 hc9 he9 K hK => ?_); go_simp; refine (eqRegion_t W X Z n cx n cz rows _ ((Rd.of_own (own_keep HOX.out b720)).below ((by (repeat (first | with_reducible exact Below.refl _ _ | with_reducible assumption | with_reducible apply bel_alloc | with_reducible apply bel_drew | with_reducible apply bel_drewN | ((with_reducible refine bel_set ?_ ?_); rotate_left; (simp <;> omega)) | (with_reducible refine bel_trans ?_ (by with_reducible assumption))))))) ((Rd.of_own HOZ.out).below he9) HL.out HL.out hn).mono ?_; rintro e u10 ⟨rfl, hz10⟩; have hu10 := bel_trans hc9 hz10; refine hK _ _ hu10 ?_; clear hK K; (refine tailK (by rfl) (fun u11 hc11 he11 K hK => ?_); go_simp; refine hK _ _ (hc11) ?_; clear hK K); (refine fun w11 hu heu => NoPanic.normal ?_)
        clear hc7 he7 hz8 hu8 HOZ hc9 he9 hz10 hu10 hc11 he11 heu
        have hb11 : Below w20.heap.size w20 w11 := hu
        clear hu
        have g11 := bel_trans b06 hb11
        go_wp2_with fail
        refine (toCellSS_l B q cb hs P _ (HP.out.below g11) hq HT.out).mono ?_
        rintro e w12 ⟨ZP, czp, hsZ, rfl, oZP, hb12⟩
        have HZP := Lib.hid oZP
        clear oZP
        go_wp2_with fail
        refine (eqCellSS_t XP ZP q cxp q czp hsX hsZ P _ ((((((HXP.out.rdp).below hb9).below hb10).below hb20).below hb11).below hb12) HZP.out (by omega) (by have := HT.out; omega)).mono ?_
        rintro e w13 ⟨rfl, hb13⟩
        have g13 := bel_trans g11 (bel_trans hb12 hb13)
        go_wp2_with fail
        refine (toIntS_l D k cd l _ (HRI.out.below g13) HLI.out hk).mono ?_
        rintro e w14 ⟨ZI, kz, czi, rfl, oZI, hb14⟩
        obtain rfl : k = kz := HLI.out.symm.trans (own_nI oZI)
        have HZI := Lib.hid (Rd.of_own oZI)
        clear oZI
        go_wp2_with fail
        refine (eqIntS_t XI ZI k cxi k czi l _ ((((((HXI.out.below hb10).below hb20).below hb11).below hb12).below hb13).below hb14) HZI.out HLI.out HLI.out (by omega)).mono ?_
        rintro e w15 ⟨rfl, hb15⟩
        have g15 := bel_trans g13 (bel_trans hb14 hb15)
        have hb1013 : Below w10.heap.size w10 w15 := bel_trans hb20 (bel_trans hb11 (bel_trans hb12 (bel_trans hb13 (bel_trans hb14 hb15))))
        have b713 := bel_trans b710 hb1013
        have HX13 := Lib.hid (HX20.out.below (bel_trans hb11 (bel_trans hb12 (bel_trans hb13 (bel_trans hb14 hb15))))); (try clear x0 x1 xl); have x0 : w15.cell? ⟨w7.heap.size, 0, none⟩ = some (.int .i64 W) := (by simpa using HX13.out.cell 0); have x1 : w15.cell? ⟨w7.heap.size, 1, none⟩ = some (.slice X n cx) := (by simpa using HX13.out.cell 1); have xl : w7.heap.size < w15.heap.size := HX13.out.lt
        have hX8 : w7.heap.size + 1 ≤ w8.heap.size := by have := hb8.size; have := HWS.out; omega
        have oX13 := own_keep HOX.out b713
        have hXlt := own_lt oX13
        have hXl2 := own_lt HOX.out
        have HXP13 := (((HXP.out.below hb9).below hb10).below hb1013)
        have og13 := own_keep HOG.out hb1013
        have HOX13 := Lib.hid oX13
        have HXP13 := Lib.hid HXP13
        have HOG13 := Lib.hid og13
        have HXL2 := Lib.hid hXl2
        have HG13 := Lib.hid g15
        have H713 := Lib.hid b713
        have H1013 := Lib.hid hb1013
        have H610 := Lib.hid b610
        have h678 : w6.heap.size ≤ w7.heap.size := hb7.size
        have h810 : w9.heap.size ≤ w10.heap.size := hb10.size
        have h8G : w8.heap.size ≤ w9.heap.size := hb9.size
        have h7G : w7.heap.size + 1 ≤ w9.heap.size := Nat.le_trans hX8 h8G
        have h046 : w.heap.size ≤ w6.heap.size := g6.size
        have hn1 : (0 : Int) ≤ 1 + (n : Int) := by omega
        clear oX13 hXlt hXl2 og13 g15 b713 hb1013 b610
        go_wp2_with fail
        refine (markRegion_l W X n cx w6.heap.size 1 rows _ HOX13.out hn (by omega) (by omega)).mono ?_
        rintro e w30 ⟨rfl, oX14, gX⟩
        have HXP14 := Lib.hid (HXP13.out.grown gX (fun g e => by have h1 := (HXL2.out g e).2; omega) (fun g e => by rw [← HXPE.out] at e; simp only [ob, Option.map_some, Option.some.injEq] at e; omega))
        have HGX := Lib.hid gX
        have hsz14 : w7.heap.size + 1 ≤ w30.heap.size := by have h1 := gX.size; have h2 := H1013.out.size; omega
        clear oX14 gX
        go_wp2_with fail
        refine (markCellSS_l (w7.heap.size + 1) w8.heap.size XP q cxp (1 + (n : Int)) hsX P w30 HXP14.out hsz14 hq HT.out (by omega) (by omega)).mono ?_
        rintro e w31 ⟨rfl, hmid⟩
        have htt := HT.out
        have hk15 : ¬ 1 + (n : Int) + 2 * ((totC P : Nat) : Int) < 0 := by omega
        have hk15b : 1 + (n : Int) + 2 * ((totC P : Nat) : Int) ≤ 9000000 := by omega
        have og15 := own_mid (own_kept HOG13.out HGX.out (fun g e r => by have h1 := (own_lt HOG13.out g e).1; have h2 := (HXL2.out g r).2; omega)) hmid h8G
        have bW15 : Below w6.heap.size w6 w31 := ⟨hmid.os.trans (HGX.out.os.trans (H1013.out.os.trans H610.out.os)), hmid.tape.trans (HGX.out.tape.trans (H1013.out.tape.trans H610.out.tape)), hmid.output.trans (HGX.out.output.trans (H1013.out.output.trans H610.out.output)), by have h1 := hmid.size; have h2 := HGX.out.size; have h3 := H1013.out.size; omega, fun k hk => by
          have e1 := H610.out.block k hk
          have e2 := H1013.out.block k (by omega)
          have e3 := HGX.out.block k (by have h3 := H1013.out.size; omega) (fun r => by have h1 := (own_lt HOX.out k r.symm).1; omega)
          have e4 := hmid.block k (by have h2 := HGX.out.size; have h3 := H1013.out.size; omega) (.inl (by omega))
          rw [e4, e3, e2, e1]⟩
        have HOG15 := Lib.hid og15
        have HBW15 := Lib.hid bW15
        have HOI15 := Lib.hid (own_mid (own_kept (own_keep (own_keep HOXI.out hb10) H1013.out) HGX.out (fun g e r => by have h1 := (own_lt HOXI.out g e).1; have h2 := (HXL2.out g r).2; omega)) hmid (Nat.le_refl _))
        have h815 : w9.heap.size ≤ w31.heap.size := by have h1 := hmid.size; have h2 := HGX.out.size; have h3 := H1013.out.size; omega
        clear og15 bW15 hmid htt
        go_wp2_with fail
        refine (markIntS_l XI k cxi w8.heap.size (1 + (n : Int) + 2 * ((totC P : Nat) : Int)) l _ HOI15.out (by omega) (by omega) (by omega)).mono ?_
        rintro e w32 ⟨rfl, oI, gI⟩
        have hk15c : ¬ 1 + (n : Int) + 2 * ((totC P : Nat) : Int) + (k : Int) < 0 := by omega
        have HIX : Hid (∀ g, ob XI = some g → w8.heap.size ≤ g ∧ g < w9.heap.size) := own_lt HOXI.out
        have HOG15i := Lib.hid (own_kept HOG15.out gI (fun g e r => by have h1 := (own_lt HOG15.out g e).1; have h2 := (HIX.out g r).2; omega))
        have HBW15i := Lib.hid (HBW15.out.grown gI (Nat.le_trans (Nat.le_trans h678 (by omega)) h815) (fun g e => by have h1 := (HIX.out g e).1; omega))
        have h815i : w9.heap.size ≤ w32.heap.size := Nat.le_trans h815 gI.size
        clear oI gI
        go_wp2_with fail
        refine (eqIntS_t _ _ _ _ _ _ F _ (Rd.of_own (HOG15i.out)) (Rd.of_own (own_keep HOW.out HBW15i.out)) HFG.out HFW.out hmg3).mono ?_
        rintro e w33 ⟨rfl, hb16⟩
        have h816 : w9.heap.size ≤ w33.heap.size := Nat.le_trans h815i hb16.size
        have HB16 := Lib.hid hb16
        clear hb16
        go_wp2_with fail
        refine (markIntS_l G mg kg w9.heap.size 1 F _ (own_keep HOG15i.out HB16.out) hmg3 (by omega) (by omega)).mono ?_
        rintro e w34 ⟨rfl, oG17, g17⟩
        have HOG17 := Lib.hid oG17
        have bW17 : Below w6.heap.size w6 w34 := (bel_trans HBW15i.out HB16.out).grown g17 (by have h1 := HBW15i.out.size; have h2 := HB16.out.size; omega) (fun g e => by have h1 := (own_lt HOG15i.out g e).1; omega)
        have HBW17 := Lib.hid bW17
        have ht0 : ¬ (1 : Int) + (mg : Int) < 0 := by omega
        clear oG17 g17 bW17
        go_wp2_with fail
        refine (heldIntS_l G mg kg 1 _ (Rd.of_own HOG17.out) hmg3 (by omega) (by omega)).mono ?_
        rintro e w35 ⟨rfl, hb18⟩
        have b018 := bel_trans (bel_trans g6 HBW17.out) hb18
        have HA18 := Lib.hid (HA6.out.below (bel_trans HBW17.out hb18)); (try clear a0 a1 al); have a0 : w35.cell? ⟨w.heap.size, 0, none⟩ = some (.int .i64 W) := (by simpa using HA18.out.cell 0); have a1 : w35.cell? ⟨w.heap.size, 1, none⟩ = some (.slice A n c) := (by simpa using HA18.out.cell 1); have al : w.heap.size < w35.heap.size := HA18.out.lt
        go_wp2_with fail
        refine (toRegion_l W A n c rows _ (hr.below b018) HL.out hn).mono ?_
        rintro e w36 ⟨Y2, ny2, cy2, rfl, oY2, hb19⟩
        obtain rfl : n = ny2 := HL.out.symm.trans (own_nI oY2)
        have HY2 := Lib.hid (Rd.of_own oY2)
        clear oY2
        have b019 := bel_trans b018 hb19
        go_wp2_with fail
        refine (toCellSS_l B q cb hs P _ (HP.out.below b019) hq HT.out).mono ?_
        rintro e w37 ⟨YP2, cyp2, hsY2, rfl, oYP2, hb19b⟩
        have HYP2 := Lib.hid oYP2
        clear oYP2
        have b019b := bel_trans b019 hb19b
        go_wp2_with fail
        refine (toIntS_l D k cd l _ (HRI.out.below b019b) HLI.out hk).mono ?_
        rintro e w41 ⟨YI2, ky2, cyi2, rfl, oYI2, hb41⟩
        obtain rfl : k = ky2 := HLI.out.symm.trans (own_nI oYI2)
        have HYI2 := Lib.hid (Rd.of_own oYI2)
        clear oYI2
        go_wp2_with fail
        refine (FewestHints_i W Y2 YP2 YI2 n cy2 q cyp2 k cyi2 rows l hsY2 P _ ((HY2.out.below hb19b).below hb41) HL.out (HYP2.out.below hb41) hq HT.out HYI2.out HLI.out hk).mono ?_
        rw [HV.out, HBB.out]
        rintro e w38 ⟨K, mk, kk, rfl, ok21, hb21⟩
        have hmk : F.length = mk := by have h1 := own_len ok21; rw [vI_length] at h1; omega
        have hmk3 : mk ≤ 1099511627776 := by omega
        have b1721 : Below w34.heap.size w34 w38 := bel_trans (bel_trans (bel_trans (bel_trans hb18 hb19) hb19b) hb41) hb21
        have bW21 := bel_trans HBW17.out b1721
        go_wp2_with fail
        refine (eqIntS_t _ _ _ _ _ _ F _ (Rd.of_own ok21) (Rd.of_own (own_keep HOW.out bW21)) hmk HFW.out hmk3).mono ?_
        rintro e w39 ⟨rfl, hb22⟩
        go_wp2_with fail
        refine (heldIntS_l G mg kg 1 _ (Rd.of_own (own_keep HOG17.out (bel_trans b1721 hb22))) hmg3 (by omega) (by omega)).mono ?_
        rintro e w40 ⟨rfl, hb23⟩
        go_wp2_with fail
        go_ret
        exact ⟨rfl, bel_trans (bel_trans (bel_trans (bel_trans g6 HBW17.out) b1721) hb22) hb23⟩
end Go.Proofs.YtglilkneipfheaaGreat

/- An argument that is a region, opened. -/
namespace Go.Proofs.YtglilkneipfheaaGreat
open Go.RowKit Go.ChangeShapes Go.WideShapes Go.Deep Go.Joins
set_option linter.unusedVariables false
section
variable {H : Type} {enc : TypeId × Value → H}
set_option maxRecDepth 100000 in
theorem openI_core {W : World} {t : TypeId} (ht : Tryz.prog.underlying t = some (.slice 3)) {base : Nat} {spare : Nat → Bool} {held : Bool} {fuel : Nat} {v : Value} {x : DataW H × List MemPlace} (hf : DataW.trod enc Tryz.prog W base spare held fuel t [v] = some x) :
    ∃ A n c xs, v = .slice A n c ∧ Rd W A (vI xs) ∧ xs.length = n ∧ n ≤ maxLen := by
  rcases open_ints ht Tryz.underlying3 cellsI hf with ⟨hcs, hx⟩ | ⟨a, len', cap', zs, hcs, _, hl, hm, hz, hx, hcell, hwz⟩
  · injection hcs with hcs
    exact ⟨none, 0, 0, [], hcs, .inl rfl, rfl, Nat.zero_le _⟩
  · injection hcs with hcs
    subst hcs
    have hzl : len' ≤ zs.length := by rw [hz]; split <;> omega
    refine ⟨_, _, _, zs.take len', rfl, ?_, by rw [List.length_take]; omega, by omega⟩
    by_cases h0 : 0 < zs.length
    · obtain ⟨b, off, rfl, hc⟩ := ints_at hcell h0
      refine .inr ⟨b, off, rfl, fun j u hu => ?_⟩
      simp only [vI, List.getElem?_map, Option.map_eq_some_iff] at hu
      obtain ⟨x, hx, rfl⟩ := hu
      have hjl : j < len' := by
        rcases Nat.lt_or_ge j len' with h | h
        · exact h
        · rw [List.getElem?_eq_none (by rw [List.length_take]; omega)] at hx; cases hx
      rw [List.getElem?_take_of_lt hjl] at hx
      rw [hc j (by omega), List.getD_eq_getElem?_getD, hx]
      rfl
    · left
      rw [List.eq_nil_of_length_eq_zero (by omega : zs.length = 0)]
      simp [vI]
theorem cellsLR : Tryz.prog.cellsOf 24 = 2 := by kernel_rfl
set_option maxRecDepth 100000 in
theorem openR {W : World} {r : Reach} {b0 : Nat} {base : Nat} {spare : Nat → Bool} {held : Bool} {v : Value} {d : DataW H} {p : List MemPlace} (hv : Value.okWide Tryz.prog W r b0 24 v) (h : DataW.Trod enc Tryz.prog W base spare held 24 v d p) :
    ∃ x A n c xs, v = .agg #[.int .i64 x, .slice A n c] ∧ Rd W A (vI xs) ∧ xs.length = n ∧ n ≤ maxLen := by
  obtain ⟨v0, v1, y0, y1, m, rfl, _, _, h0, h1⟩ := open_agg2 Tryz.underlying24 (by kernel_rfl) cellsLR hv h
  obtain ⟨x, e0, _, _⟩ := DataW.trod_int Tryz.underlying3 h0
  injection e0 with e0
  subst e0
  obtain ⟨A, n, c, xs, rfl, hr, hl, hm⟩ := openI_core Tryz.underlying22 h1
  exact ⟨x, A, n, c, xs, rfl, hr, hl, hm⟩
end
end Go.Proofs.YtglilkneipfheaaGreat
