/- Shapes counted by growth: the reference. -/
import Derived.Test.YtcgohceakjjlhaaGrwM
import Derived.Test.YtcgohceakjjlhaaMem
import Derived.Test.YtcgohceakjjlhaaShape
import Derived.Test.YtcgohceakjjlhaaSmall
import Derived.Outline
import Derived.WalkLawsBesides
import Derived.WalkSpells
import Derived.BigQuiet
import Derived.Deep.QuietTactic
import Derived.Deep.RegionHeld3
import Derived.Deep.RegionWith
import Derived.Deep.DeepCutAuto
import Derived.Deep.CutBlock
import Derived.Deep.DrawnRows
namespace Go.Proofs.Ytcgohceakjjlhaa
open Go.RowKit
set_option linter.unusedVariables false
attribute [local go_sem ↓] Go.wp_at_zero Go.wp_at_succ

theorem run_uptoG (w : World) (A : Option Addr) (m c k : Nat) (hk : k ≤ c) (hA : 0 < m → ∃ g o, A = some ⟨g, o, none⟩) (hm : 0 < m) : (Instr.slice 37 (.slice A m c) none (some (.int .i64 (k : Int))) none).run Try.prog w = .ok (.slice A k c) w := by
  obtain ⟨g, o, rfl⟩ := hA hm
  have h2 : (k : Int) ≤ (c : Int) := by omega
  simp [go_sem, h2]
theorem own_lit (w : World) {base : Nat} (h : base ≤ w.heap.size) : (w.alloc (.cells #[] 54)).ownsRow base 54 2 (.slice (some ⟨w.heap.size, 0, none⟩) 0 0) 0 (vC []) := own_new w _ 2 0 #[] rfl (by simp [maxLen]) h
theorem own_kept3 {w w' : World} {base e size n c : Nat} {A : Option Addr} {xs : List Value} {X : Option Addr} (h : w.ownsRow base e size (.slice A n c) n xs) (hg : w.grownBy w' (ob X)) (hn : ∀ g, ob A = some g → ob X ≠ some g) : w'.ownsRow base e size (.slice A n c) n xs :=
  h.kept hg (by
    rw [ownBlock_slice]
    cases hA : ob A with
    | none => exact .inl rfl
    | some g => right; intro e; exact hn g hA e.symm)
theorem own_ext {w w' : World} {o : Obj} (h : (w.alloc o).grownBy w' (ob (some ⟨w.heap.size, 0, none⟩))) : Below w.heap.size w w' :=
  ⟨h.os, h.tape, h.output, by have := h.size; simp at this; omega, fun k hk => (h.block k (by simp; omega) (by simp [ob]; omega)).trans (Below.heap_alloc w o k hk)⟩
theorem own_cap2 {w : World} {base e n c : Nat} {A : Option Addr} {xs : List Value} (h : w.ownsRow base e 2 (.slice A n c) n xs) : n ≤ c ∧ c ≤ 9223372036854775807 := by
  rcases h.2 with ⟨hv, rfl⟩ | ⟨g', cap, cur, hv, _, _, h1, h2, _⟩
  · injection hv with _ _ h3; omega
  · injection hv with _ _ h3
    unfold maxLen at h2
    omega
/-- The length of a slice. -/
def lenOf1 (v : Value) : Nat := match v with
  | .slice _ n _ => n
  | _ => 0
set_option maxRecDepth 100000 in
set_option maxHeartbeats 6400000 in
theorem l25Grow_s : ∀ (l : Nat) (A : Option Addr) (n c : Nat) (u : List C) (B : Option Addr) (m d : Nat) (s : List C) (w : World) (hr : Rd w A (vC u)) (hr2 : Rd w B (vC s)) (hl : u.length = n) (hl2 : s.length = m) (hnc : n ≤ c) (hc : c ≤ 9223372036854775807)
    (hb1 : n + 4 * l ≤ 24) (hb2 : m + 4 * l ≤ 100) (hu : ∀ x ∈ u, near0 (20 - l) x) (hs : ∀ x ∈ s, near0 (20 - l) x) (hl5 : l ≤ 5),
    Calls Try.prog 60 #[.int .i64 ((l + 1 : Nat) : Int), .slice A n c, .slice B m d] w (Ret w (.int .i64 (growC l u s : Nat))) := by
  intro l
  induction l with
  | zero =>
    intro A n c u B m d s w hr hr2 hl hl2 hnc hc hb1 hb2 hu hs hl5
    have HL := Lib.hid hl
    have HV : Hid (growC 0 u s = n) := hl
    have hr' := Lib.hid hr
    clear hr2 hl hl2 hu hs
    go_enter Try.func60, Try.ntmps60
    go_wp2
    go_loopw [1, 7] (fun e1 e7 wr => ∃ (k a : Nat), k ≤ n ∧ e1 = .slice A k c ∧ e7 = .int .i64 a ∧ a + k = n ∧ Below w.heap.size w wr) (fun e1 _ _ => (lenOf1 e1))
    case atStart => exact ⟨n, 0, Nat.le_refl _, rfl, rfl, by omega, Below.refl _ _⟩
    case round =>
      obtain ⟨k, a, hk, rfl, rfl, ha, hb⟩ := hrel
      by_cases hk0 : 0 < k
      · obtain ⟨j, hj⟩ : ∃ j, k = j + 1 := ⟨k - 1, by omega⟩
        have hjl : j < u.length := by rw [HL.out]; omega
        obtain ⟨g, off, hA, hg, d1, d2⟩ := RdC.at_ (hr'.out.below hb) hjl
        subst hA
        obtain ⟨x, hx⟩ : ∃ x, u[j].1 = x := ⟨_, rfl⟩
        obtain ⟨y, hy⟩ : ∃ y, u[j].2 = y := ⟨_, rfl⟩
        rw [hx] at d1
        rw [hy] at d2
        have hj1 : (k : Int) - 1 = (j : Int) := by omega
        have hjw : IntKind.i64.wrap (j : Int) = (j : Int) := Go.IntWalk.i64_in _ (by omega)
        have hj0 : (0 : Int) ≤ (j : Int) := by omega
        have hjk : (j : Int) < (k : Int) := by omega
        have hsl : ∀ w', (Instr.slice 37 (.slice (some ⟨g, off, none⟩) k c) none (some (.int .i64 (j : Int))) none).run Try.prog w' = .ok (.slice (some ⟨g, off, none⟩) j c) w' := fun w' => run_uptoG w' _ k c j (by omega) (fun _ => ⟨_, _, rfl⟩) hk0
        have haw : IntKind.i64.wrap ((a : Int) + 1) = (a : Int) + 1 := Go.IntWalk.i64_in _ (by omega)
        have HJ := Lib.hid hj
        clear hx hy hj
        go_wp2_with fail
        exact ⟨⟨j, a + 1, by omega, rfl, by go_num, by have := HJ.out; omega, bel_alloc hb _⟩, by simp [lenOf1]; have := HJ.out; omega⟩
      · obtain rfl : k = 0 := by omega
        have HN : Hid (a = n) := by show a = n; omega
        clear hk0
        go_wp2
        go_ret
        exact ⟨by rw [HV.out, ← HN.out]; rfl, hb⟩
  | succ l ih =>
    intro A n c u B m d s w hr hr2 hl hl2 hnc hc hb1 hb2 hu hs hl5
    obtain ⟨q, hq⟩ : ∃ q : Nat, l + 1 + 1 = q := ⟨_, rfl⟩
    obtain ⟨p, hp⟩ : ∃ p : Nat, l + 1 = p := ⟨_, rfl⟩
    have hqp : (q : Int) - 1 = (p : Int) := by omega
    have hpw : IntKind.i64.wrap (p : Int) = (p : Int) := Go.IntWalk.i64_in _ (by omega)
    have hq1 : ((q : Int) == 1) = false := by rw [beq_eq_false_iff_ne]; omega
    have HIH := Lib.hid ih
    have HP := Lib.hid hp
    have HL := Lib.hid hl
    have HL2 := Lib.hid hl2
    have HR := Lib.hid hr
    have HR2 := Lib.hid hr2
    have HU := Lib.hid hu
    have HS := Lib.hid hs
    have hgle := growC_le (l + 1) u s (by omega)
    have h25 : 25 ^ (l + 1 + 1) ≤ 244140625 := by
      have : 25 ^ (l + 1 + 1) ≤ 25 ^ 6 := Nat.pow_le_pow_right (by omega) (by omega)
      simpa using this
    have htot : growK (l + 1) u s n = growC (l + 1) u s := by rw [← hl]; exact growK_all _ _ _
    obtain ⟨tot, htt⟩ : ∃ tot, growC (l + 1) u s = tot := ⟨_, rfl⟩
    rw [htt] at hgle htot
    have HT := Lib.hid htt
    have HTOT := Lib.hid htot
    have htb : tot ≤ 244140625 := by omega
    have hmm100 : m ≤ 100 := by omega
    rw [hq]
    clear ih hl hl2 hr hr2 hu hs hp hq hgle h25 htot htt
    go_enter Try.func60, Try.ntmps60
    go_wp2
    go_loopw [1, 7] (fun e1 e7 wr => ∃ (k a : Nat), k ≤ n ∧ e1 = .slice A k c ∧ e7 = .int .i64 a ∧ a + growK (l + 1) u s k = tot ∧ Below w.heap.size w wr) (fun e1 _ _ => (lenOf1 e1))
    case atStart => exact ⟨n, 0, Nat.le_refl _, rfl, rfl, by rw [Nat.zero_add]; exact HTOT.out, Below.refl _ _⟩
    case round =>
      obtain ⟨k, a, hk, rfl, rfl, ha, hb⟩ := hrel
      obtain ⟨v, hv⟩ : ∃ v, v = wr := ⟨_, rfl⟩
      subst hv
      have HA := Lib.hid ha
      clear ha
      by_cases hk0 : 0 < k
      · obtain ⟨j, hj⟩ : ∃ j, k = j + 1 := ⟨k - 1, by omega⟩
        have hjl : j < u.length := by rw [HL.out]; omega
        obtain ⟨g, off, hA, hg, d1, d2⟩ := RdC.at_ (HR.out.below hb) hjl
        subst hA
        have hgs := growK_succ (l + 1) u s j
        have htm : termC (l + 1) u s j = 1 + growC l (more4 (u.getD j default) (u.take j) s 4).1 (more4 (u.getD j default) (u.take j) s 4).2 := rfl
        have hnx := HU.out _ (List.getElem_mem hjl)
        obtain ⟨px, hx⟩ : ∃ x, u[j].1 = x := ⟨_, rfl⟩
        obtain ⟨py, hy⟩ : ∃ y, u[j].2 = y := ⟨_, rfl⟩
        have hxy : u[j] = (px, py) := Prod.ext hx hy
        rw [hx] at d1
        rw [hy] at d2
        rw [hxy] at hnx
        rw [getD_in u hjl, hxy] at htm
        rw [htm] at hgs
        have hj1 : (k : Int) - 1 = (j : Int) := by omega
        have hjw : IntKind.i64.wrap (j : Int) = (j : Int) := Go.IntWalk.i64_in _ (by omega)
        have hj0 : (0 : Int) ≤ (j : Int) := by omega
        have hjk : (j : Int) < (k : Int) := by omega
        have hsl : ∀ w', (Instr.slice 37 (.slice (some ⟨g, off, none⟩) k c) none (some (.int .i64 (j : Int))) none).run Try.prog w' = .ok (.slice (some ⟨g, off, none⟩) j c) w' := fun w' => run_uptoG w' _ k c j (by omega) (fun _ => ⟨_, _, rfl⟩) hk0
        have hat : a < tot := by have h1 := HA.out; rw [hj, hgs] at h1; omega
        have haw : IntKind.i64.wrap ((a : Int) + 1) = (a : Int) + 1 := Go.IntWalk.i64_in _ (by omega)
        have hml4 := more4_len (px, py) (u.take j) s
        have hmn4 := more4_near hnx (a := u.take j) (b := s) (fun c hc => by have := HU.out c (List.mem_of_mem_take hc); unfold near0 at this ⊢; omega) (fun c hc => by have := HS.out c hc; unfold near0 at this ⊢; omega)
        have HJ := Lib.hid hj
        have HGS := Lib.hid hgs
        have HM4 := Lib.hid hml4
        have HN4 := Lib.hid hmn4
        have HNX := Lib.hid hnx
        have HRT : Hid (Rd v (some ⟨g, off, none⟩) (vC (u.take j))) := by show Rd _ _ _; rw [vC_take]; exact Rd.take (HR.out.below hb) _
        have HTL : Hid ((u.take j).length = j) := by show _ = j; rw [List.length_take]; omega
        have HR2v := Lib.hid (HR2.out.below hb)
        have hvz := hb.size
        have HLIT : Hid (((v.alloc (.cells #[.int .i64 px, .int .i64 py] 54)).alloc (.cells #[] 54)).ownsRow (v.heap.size + 1) 54 2 (.slice (some ⟨v.heap.size + 1, 0, none⟩) 0 0) 0 (vC [])) := by
          have := own_lit (v.alloc (.cells #[.int .i64 px, .int .i64 py] 54)) (base := v.heap.size + 1) (by simp)
          exact Lib.hid (by simpa using this)
        clear hx hy hxy hj hgs htm hml4 hmn4 hnx
        go_wp2_with (at_builtin; first
          | (refine app_C _ rfl _ _ rfl (v.heap.size + 1) _ 0 0 [] rfl HLIT.out _ _ _ (u.take j) rfl (HRT.out.below (bel_alloc (bel_alloc (Below.refl _ _) _) _)) HTL.out (by omega) (by simp <;> omega) ?_; intro M cm w2 ho2 hg2 hat2; simp only [Nat.zero_add, List.nil_append] at ho2; have HM := Lib.hid ho2; have HX2 : Hid (Below v.heap.size v w2) := bel_app (bel_alloc (bel_alloc (Below.refl _ _) _) _) hg2 (fun g h => by simp [ob] at h; omega); have HBX2 := Lib.hid (((Blk.new v 54 #[.int .i64 px, .int .i64 py]).alloc (.cells #[] 54)).grown hg2 (by simp [ob])); have HML := Lib.hid (own_lt ho2); have hz2 := hg2.size; clear ho2 hg2 hat2)
          | (refine app_C _ rfl _ _ rfl (v.heap.size + 1) _ 0 0 [] rfl (own_lit _ (by (try simp at hz2); (try simp); omega)) _ _ _ s rfl (HR2v.out.below (bel_alloc HX2.out _)) HL2.out (by omega) (by (try simp at hz2); (try simp); omega) ?_; intro K ck w3 ho3 hg3 hat3; simp only [Nat.zero_add, List.nil_append] at ho3; have HK := Lib.hid ho3; have HG3 := Lib.hid hg3; have HAT3 := Lib.hid hat3; clear ho3 hg3 hat3))
        (try simp only [World.size_alloc] at hz2)
        have hM3 := own_keep HM.out (own_ext HG3.out)
        have HSEP : Hid (∀ g, ob M = some g → ob K ≠ some g) := fun g e r => by
          have h1 := (HML.out g e).2
          rcases HAT3.out with h | h
          · rw [h] at r; simp [ob] at r; omega
          · rw [h] at r; simp at r; omega
        have HM3 := Lib.hid hM3
        have HBX3 := Lib.hid ((HBX2.out.alloc (.cells #[] 54)).grown HG3.out (by simp [ob]; omega))
        have HBI3 : Hid (Below w.heap.size w w3) := bel_trans hb (bel_trans HX2.out (own_ext HG3.out))
        clear hM3
        go_loopw [11, 9, 10] (fun e11 e9 e10 wr2 => ∃ (i mm cm : Nat) (M : Option Addr) (mk ck : Nat) (K : Option Addr) (ml kl : List C), i ≤ 4 ∧ e11 = .int .i64 i ∧ e9 = .slice M mm cm ∧ e10 = .slice K mk ck ∧ more4 (px, py) (u.take j) s i = (ml, kl) ∧
            wr2.ownsRow (v.heap.size + 1) 54 2 (.slice M mm cm) mm (vC ml) ∧ wr2.ownsRow (v.heap.size + 1) 54 2 (.slice K mk ck) mk (vC kl) ∧ (∀ g, ob M = some g → ob K ≠ some g) ∧ Blk wr2 v.heap.size 54 #[.int .i64 px, .int .i64 py] ∧ Below w.heap.size w wr2) (fun e11 _ _ _ => 4 - (intOf e11).toNat)
        case atStart => exact ⟨0, j, cm, M, m, ck, K, u.take j, s, Nat.zero_le _, rfl, rfl, rfl, rfl, HM3.out, HK.out, HSEP.out, HBX3.out, HBI3.out⟩
        case round =>
          clear HM HX2 HBX2 HML HK HG3 HAT3 hz2 HSEP HM3 HBX3 HBI3 d1 d2 hg hsl HLIT HR2v
          obtain ⟨i, mm, cm, M, mk, ck, K, ml, kl, hi4, rfl, rfl, rfl, hmk, hM, hK, hsep, hBX, hbi⟩ := hrel
          have hmll : ml.length = mm := by have := own_len hM; rw [vC_length] at this; omega
          have hkll : kl.length = mk := by have := own_len hK; rw [vC_length] at this; omega
          have hlen4 := HM4.out i hi4
          rw [hmk] at hlen4
          have hmmb : mm ≤ j + i := by have := hlen4.1; rw [HTL.out] at this; simp only at this; omega
          have hmkb : mk ≤ m + i := by have := hlen4.2; rw [HL2.out] at this; simp only at this; omega
          have hjn : j + 1 ≤ n := by have := HJ.out; omega
          have HKL := Lib.hid hkll
          have HMLL := Lib.hid hmll
          have HMK := Lib.hid hmk
          have HOM := Lib.hid hM
          have HOK2 := Lib.hid hK
          have HSEP := Lib.hid hsep
          have HBX := Lib.hid hBX
          clear hmll hkll hlen4 hM hK hsep
          by_cases hlt4 : i < 4
          · have hi0 : (0 : Int) ≤ (i : Int) := by omega
            have hi1 : (i : Int) < 4 := by omega
            have x0 : wr.cell? ⟨v.heap.size, 0, none⟩ = some (.int .i64 px) := by simpa using hBX.cell 0
            have x1 : wr.cell? ⟨v.heap.size, 1, none⟩ = some (.int .i64 py) := by simpa using hBX.cell 1
            have xl := hBX.lt
            have hstep := more4_succ (px, py) (u.take j) s i hlt4
            rw [hmk] at hstep
            obtain ⟨da, db, e1, e2, hd1, hd2, hab⟩ : ∃ da db : Int, ((1 : Int) - (i : Int)).tmod 2 = da ∧ ((2 : Int) - (i : Int)).tmod 2 = db ∧ (-1 ≤ da ∧ da ≤ 1) ∧ (-1 ≤ db ∧ db ≤ 1) ∧ (sidesS (px, py)).getD i default = (px + da, py + db) := by
              rcases (by omega : i = 0 ∨ i = 1 ∨ i = 2 ∨ i = 3) with rfl | rfl | rfl | rfl
              · exact ⟨1, 0, by decide, by decide, by omega, by omega, by simp [sidesS]⟩
              · exact ⟨0, 1, by decide, by decide, by omega, by omega, by simp [sidesS]⟩
              · exact ⟨-1, 0, by decide, by decide, by omega, by omega, by simp [sidesS]; omega⟩
              · exact ⟨0, -1, by decide, by decide, by omega, by omega, by simp [sidesS]; omega⟩
            rw [hab] at hstep
            have hnear := HNX.out
            unfold near0 at hnear
            simp only at hnear
            obtain ⟨a0, ha0⟩ : ∃ a0, px + da = a0 := ⟨_, rfl⟩
            obtain ⟨b, hbb⟩ : ∃ b, py + db = b := ⟨_, rfl⟩
            rw [ha0, hbb] at hstep
            have w1 : IntKind.i64.wrap ((1 : Int) - (i : Int)) = (1 : Int) - (i : Int) := Go.IntWalk.i64_in _ (by omega)
            have w2 : IntKind.i64.wrap ((2 : Int) - (i : Int)) = (2 : Int) - (i : Int) := Go.IntWalk.i64_in _ (by omega)
            have w3 : IntKind.i64.wrap a0 = a0 := Go.IntWalk.i64_in _ (by omega)
            have w4 : IntKind.i64.wrap b = b := Go.IntWalk.i64_in _ (by omega)
            have w5 : IntKind.i64.wrap da = da := Go.IntWalk.i64_in _ (by omega)
            have w6 : IntKind.i64.wrap db = db := Go.IntWalk.i64_in _ (by omega)
            have HSTEP := Lib.hid hstep
            clear hstep hab hnear hd1 hd2 hBX hmk
            cases hokb : okY (a0, b) with
            | true =>
              have HOK := Lib.hid hokb
              have hok : b > 0 ∨ b = 0 ∧ a0 ≥ 0 := by unfold okY at hokb; simp at hokb; omega
              clear hokb
              rcases hok with hok | hok
              · have hbp : b > 0 := hok
                cases hh : hasC kl a0 b with
                | true =>
                  have HST2 : Hid (more4 (px, py) (u.take j) s (i + 1) = (ml, kl)) := by show _ = _; rw [HSTEP.out]; unfold stepM; simp only [HOK.out, hh]; rfl
                  have HH := Lib.hid hh
                  clear hh
                  go_wp2_with fail
                  refine (HasCell_s K mk ck kl a0 b _ ((Rd.of_own HOK2.out).alloc _) HKL.out (by omega)).mono ?_
                  rw [show hasC kl a0 b = true from HH.out]
                  rintro e w4 ⟨rfl, hb4⟩
                  have hx4 := bel_trans (bel_alloc (Below.refl _ _) _) hb4
                  go_wp2_with fail
                  exact ⟨⟨i + 1, mm, cm, M, mk, ck, K, ml, kl, by omega, by go_num, rfl, rfl, HST2.out, own_keep HOM.out hx4, own_keep HOK2.out hx4, HSEP.out, HBX.out.below hx4, bel_trans hbi hx4⟩, by simp [intOf]; omega⟩
                | false =>
                  have HST2 : Hid (more4 (px, py) (u.take j) s (i + 1) = (ml ++ [(a0, b)], kl ++ [(a0, b)])) := by show _ = _; rw [HSTEP.out]; unfold stepM; simp only [HOK.out, hh]; rfl
                  have HH := Lib.hid hh
                  clear hh
                  go_wp2_with fail
                  refine (HasCell_s K mk ck kl a0 b _ ((Rd.of_own HOK2.out).alloc _) HKL.out (by omega)).mono ?_
                  rw [show hasC kl a0 b = false from HH.out]
                  rintro e w4 ⟨rfl, hb4⟩
                  have hx4 := bel_trans (bel_alloc (Below.refl _ _) _) hb4
                  have hB4 := (Blk.new wr 54 #[.int .i64 a0, .int .i64 b]).below hb4
                  have y0 : w4.cell? ⟨wr.heap.size, 0, none⟩ = some (.int .i64 a0) := by simpa using hB4.cell 0
                  have y1 : w4.cell? ⟨wr.heap.size, 1, none⟩ = some (.int .i64 b) := by simpa using hB4.cell 1
                  have yl := hB4.lt
                  have HB4 := Lib.hid hB4
                  have HOM4 := Lib.hid (own_keep HOM.out hx4)
                  have HOK4 := Lib.hid (own_keep HOK2.out hx4)
                  have hz4 := hx4.size
                  have HML2 := Lib.hid (fun g (e : ob M = some g) => (own_lt HOM.out g e))
                  have HKL2 := Lib.hid (fun g (e : ob K = some g) => (own_lt HOK2.out g e))
                  clear hB4
                  go_wp2_with (at_builtin; first
                    | (refine app_C _ rfl _ _ rfl (v.heap.size + 1) M mm cm ml rfl (HOM4.out.alloc _) _ _ _ [(a0, b)] rfl (rd_newC _ _ _ _) rfl (by omega) (by simp <;> omega) ?_; intro M2 cm2 w5 ho5 hg5 hat5; have HO5 := Lib.hid ho5; have HG5 := Lib.hid hg5; have HAT5 := Lib.hid hat5; have hB5 := (HB4.out.alloc (.cells #[.int .i64 a0, .int .i64 b] 54)).grown hg5 (fun e => by have := (HML2.out _ e.symm).2; omega); have z0 : w5.cell? ⟨wr.heap.size, 0, none⟩ = some (.int .i64 a0) := (by simpa using hB5.cell 0); have z1 : w5.cell? ⟨wr.heap.size, 1, none⟩ = some (.int .i64 b) := (by simpa using hB5.cell 1); have zl := hB5.lt; have hz5 := hg5.size; have HK5 := Lib.hid (own_kept3 (HOK4.out.alloc (.cells #[.int .i64 a0, .int .i64 b] 54)) hg5 (fun g e r => HSEP.out g r e)); have HBX5 := Lib.hid (((HBX.out.below hx4).alloc (.cells #[.int .i64 a0, .int .i64 b] 54)).grown hg5 (fun e => by have := (HML2.out _ e.symm).1; omega)); have HBI5 : Hid (Below w.heap.size w w5) := bel_app (bel_alloc (bel_trans hbi hx4) _) hg5 (fun g e => by have := (HML2.out g e).1; omega); clear ho5 hg5 hat5 hB5 y0 y1 yl)
                    | (refine app_C _ rfl _ _ rfl (v.heap.size + 1) K mk ck kl rfl (HK5.out.alloc _) _ _ _ [(a0, b)] rfl (rd_newC _ _ _ _) rfl (by omega) (by (try simp at hz5); (try simp); omega) ?_; intro K2 ck2 w6 ho6 hg6 hat6; have HO6 := Lib.hid ho6; have HG6 := Lib.hid hg6; have HAT6 := Lib.hid hat6; clear ho6 hg6 hat6))
                  (try simp only [World.size_alloc] at hz5)
                  have HSEP5 : Hid (∀ g, ob M2 = some g → ob K ≠ some g) := fun g e r => by
                    rcases HAT5.out with h | h
                    · exact HSEP.out g (h ▸ e) r
                    · rw [h] at e
                      simp only [World.size_alloc, Option.some.injEq] at e
                      have := (HKL2.out g r).2
                      omega
                  have HM6 := Lib.hid (own_kept3 (HO5.out.alloc (.cells #[.int .i64 a0, .int .i64 b] 54)) HG6.out (fun g e r => HSEP5.out g e r))
                  have HSEP6 : Hid (∀ g, ob M2 = some g → ob K2 ≠ some g) := fun g e r => by
                    rcases HAT6.out with h | h
                    · exact HSEP5.out g e (h ▸ r)
                    · rw [h] at r
                      simp only [World.size_alloc, Option.some.injEq] at r
                      have := (own_lt HO5.out g e).2
                      omega
                  have HBX6 := Lib.hid ((HBX5.out.alloc (.cells #[.int .i64 a0, .int .i64 b] 54)).grown HG6.out (fun e => by have := (HKL2.out _ e.symm).1; omega))
                  have HBI6 : Hid (Below w.heap.size w w6) := bel_app (bel_alloc HBI5.out _) HG6.out (fun g e => by have := (HKL2.out g e).1; omega)
                  exact ⟨⟨i + 1, mm + 1, cm2, M2, mk + 1, ck2, K2, ml ++ [(a0, b)], kl ++ [(a0, b)], by omega, by go_num, rfl, rfl, HST2.out, HM6.out, HO6.out, HSEP6.out, HBX6.out, HBI6.out⟩, by simp [intOf]; omega⟩
              · obtain ⟨hb0, ha0⟩ := hok
                have hbp : decide (b > 0) = false := by simp; omega
                have hbe : (b == 0) = true := by rw [beq_iff_eq]; exact hb0
                have hbz : b = 0 := hb0
                have hap : a0 ≥ 0 := ha0
                clear hb0 ha0 hbz
                cases hh : hasC kl a0 b with
                | true =>
                  have HST2 : Hid (more4 (px, py) (u.take j) s (i + 1) = (ml, kl)) := by show _ = _; rw [HSTEP.out]; unfold stepM; simp only [HOK.out, hh]; rfl
                  have HH := Lib.hid hh
                  clear hh
                  go_wp2_with fail
                  refine (HasCell_s K mk ck kl a0 b _ ((Rd.of_own HOK2.out).alloc _) HKL.out (by omega)).mono ?_
                  rw [show hasC kl a0 b = true from HH.out]
                  rintro e w4 ⟨rfl, hb4⟩
                  have hx4 := bel_trans (bel_alloc (Below.refl _ _) _) hb4
                  go_wp2_with fail
                  exact ⟨⟨i + 1, mm, cm, M, mk, ck, K, ml, kl, by omega, by go_num, rfl, rfl, HST2.out, own_keep HOM.out hx4, own_keep HOK2.out hx4, HSEP.out, HBX.out.below hx4, bel_trans hbi hx4⟩, by simp [intOf]; omega⟩
                | false =>
                  have HST2 : Hid (more4 (px, py) (u.take j) s (i + 1) = (ml ++ [(a0, b)], kl ++ [(a0, b)])) := by show _ = _; rw [HSTEP.out]; unfold stepM; simp only [HOK.out, hh]; rfl
                  have HH := Lib.hid hh
                  clear hh
                  go_wp2_with fail
                  refine (HasCell_s K mk ck kl a0 b _ ((Rd.of_own HOK2.out).alloc _) HKL.out (by omega)).mono ?_
                  rw [show hasC kl a0 b = false from HH.out]
                  rintro e w4 ⟨rfl, hb4⟩
                  have hx4 := bel_trans (bel_alloc (Below.refl _ _) _) hb4
                  have hB4 := (Blk.new wr 54 #[.int .i64 a0, .int .i64 b]).below hb4
                  have y0 : w4.cell? ⟨wr.heap.size, 0, none⟩ = some (.int .i64 a0) := by simpa using hB4.cell 0
                  have y1 : w4.cell? ⟨wr.heap.size, 1, none⟩ = some (.int .i64 b) := by simpa using hB4.cell 1
                  have yl := hB4.lt
                  have HB4 := Lib.hid hB4
                  have HOM4 := Lib.hid (own_keep HOM.out hx4)
                  have HOK4 := Lib.hid (own_keep HOK2.out hx4)
                  have hz4 := hx4.size
                  have HML2 := Lib.hid (fun g (e : ob M = some g) => (own_lt HOM.out g e))
                  have HKL2 := Lib.hid (fun g (e : ob K = some g) => (own_lt HOK2.out g e))
                  clear hB4
                  go_wp2_with (at_builtin; first
                    | (refine app_C _ rfl _ _ rfl (v.heap.size + 1) M mm cm ml rfl (HOM4.out.alloc _) _ _ _ [(a0, b)] rfl (rd_newC _ _ _ _) rfl (by omega) (by simp <;> omega) ?_; intro M2 cm2 w5 ho5 hg5 hat5; have HO5 := Lib.hid ho5; have HG5 := Lib.hid hg5; have HAT5 := Lib.hid hat5; have hB5 := (HB4.out.alloc (.cells #[.int .i64 a0, .int .i64 b] 54)).grown hg5 (fun e => by have := (HML2.out _ e.symm).2; omega); have z0 : w5.cell? ⟨wr.heap.size, 0, none⟩ = some (.int .i64 a0) := (by simpa using hB5.cell 0); have z1 : w5.cell? ⟨wr.heap.size, 1, none⟩ = some (.int .i64 b) := (by simpa using hB5.cell 1); have zl := hB5.lt; have hz5 := hg5.size; have HK5 := Lib.hid (own_kept3 (HOK4.out.alloc (.cells #[.int .i64 a0, .int .i64 b] 54)) hg5 (fun g e r => HSEP.out g r e)); have HBX5 := Lib.hid (((HBX.out.below hx4).alloc (.cells #[.int .i64 a0, .int .i64 b] 54)).grown hg5 (fun e => by have := (HML2.out _ e.symm).1; omega)); have HBI5 : Hid (Below w.heap.size w w5) := bel_app (bel_alloc (bel_trans hbi hx4) _) hg5 (fun g e => by have := (HML2.out g e).1; omega); clear ho5 hg5 hat5 hB5 y0 y1 yl)
                    | (refine app_C _ rfl _ _ rfl (v.heap.size + 1) K mk ck kl rfl (HK5.out.alloc _) _ _ _ [(a0, b)] rfl (rd_newC _ _ _ _) rfl (by omega) (by (try simp at hz5); (try simp); omega) ?_; intro K2 ck2 w6 ho6 hg6 hat6; have HO6 := Lib.hid ho6; have HG6 := Lib.hid hg6; have HAT6 := Lib.hid hat6; clear ho6 hg6 hat6))
                  (try simp only [World.size_alloc] at hz5)
                  have HSEP5 : Hid (∀ g, ob M2 = some g → ob K ≠ some g) := fun g e r => by
                    rcases HAT5.out with h | h
                    · exact HSEP.out g (h ▸ e) r
                    · rw [h] at e
                      simp only [World.size_alloc, Option.some.injEq] at e
                      have := (HKL2.out g r).2
                      omega
                  have HM6 := Lib.hid (own_kept3 (HO5.out.alloc (.cells #[.int .i64 a0, .int .i64 b] 54)) HG6.out (fun g e r => HSEP5.out g e r))
                  have HSEP6 : Hid (∀ g, ob M2 = some g → ob K2 ≠ some g) := fun g e r => by
                    rcases HAT6.out with h | h
                    · exact HSEP5.out g e (h ▸ r)
                    · rw [h] at r
                      simp only [World.size_alloc, Option.some.injEq] at r
                      have := (own_lt HO5.out g e).2
                      omega
                  have HBX6 := Lib.hid ((HBX5.out.alloc (.cells #[.int .i64 a0, .int .i64 b] 54)).grown HG6.out (fun e => by have := (HKL2.out _ e.symm).1; omega))
                  have HBI6 : Hid (Below w.heap.size w w6) := bel_app (bel_alloc HBI5.out _) HG6.out (fun g e => by have := (HKL2.out g e).1; omega)
                  exact ⟨⟨i + 1, mm + 1, cm2, M2, mk + 1, ck2, K2, ml ++ [(a0, b)], kl ++ [(a0, b)], by omega, by go_num, rfl, rfl, HST2.out, HM6.out, HO6.out, HSEP6.out, HBX6.out, HBI6.out⟩, by simp [intOf]; omega⟩
            | false =>
              have HOK := Lib.hid hokb
              clear hokb
              have HST2 : Hid (more4 (px, py) (u.take j) s (i + 1) = (ml, kl)) := by show _ = _; rw [HSTEP.out]; unfold stepM; simp only [HOK.out]; rfl
              have hbp : decide (b > 0) = false := by
                cases hd : decide (b > 0) with
                | false => rfl
                | true =>
                  have := HOK.out
                  unfold okY at this
                  simp only [hd, Bool.true_or] at this
                  cases this
              by_cases hb0 : b = 0
              · have hbe : (b == 0) = true := by rw [beq_iff_eq]; exact hb0
                have hap : decide (a0 ≥ 0) = false := by
                  have := HOK.out
                  unfold okY at this
                  simp only [hbp, hbe, Bool.false_or, Bool.true_and] at this
                  exact this
                have hapn : ¬ a0 ≥ 0 := by simpa using hap
                clear hb0
                go_wp2_with fail
                exact ⟨⟨i + 1, mm, cm, M, mk, ck, K, ml, kl, by omega, by go_num, rfl, rfl, HST2.out, HOM.out.alloc _, HOK2.out.alloc _, HSEP.out, HBX.out.alloc _, bel_alloc hbi _⟩, by simp [intOf]; omega⟩
              · have hbe : (b == 0) = false := by rw [beq_eq_false_iff_ne]; exact hb0
                clear hb0
                go_wp2_with fail
                exact ⟨⟨i + 1, mm, cm, M, mk, ck, K, ml, kl, by omega, by go_num, rfl, rfl, HST2.out, HOM.out.alloc _, HOK2.out.alloc _, HSEP.out, HBX.out.alloc _, bel_alloc hbi _⟩, by simp [intOf]; omega⟩
          · obtain rfl : i = 4 := by omega
            have hcap : mm ≤ cm ∧ cm ≤ 9223372036854775807 := own_cap2 HOM.out
            have hnear := HN4.out 4 (Nat.le_refl _)
            rw [hmk] at hnear
            have hgs := HGS.out
            rw [hmk] at hgs
            obtain ⟨tt, htt⟩ : ∃ tt, growC l ml kl = tt := ⟨_, rfl⟩
            simp only at hgs
            rw [htt] at hgs
            have hsum : a + (1 + tt) + growK (l + 1) u s j = tot := by have := HA.out; rw [HJ.out, hgs] at this; omega
            have HSUM := Lib.hid hsum
            have hcall := HIH.out M mm cm ml K mk ck kl wr (Rd.of_own HOM.out) (Rd.of_own HOK2.out) HMLL.out HKL.out hcap.1 hcap.2 (by omega) (by omega)
              (fun c hc => by have := hnear.1 c hc; unfold near0 at this ⊢; omega) (fun c hc => by have := hnear.2 c hc; unfold near0 at this ⊢; omega) (by omega)
            rw [htt, HP.out] at hcall
            have HCALL := Lib.hid hcall
            have haw2 : IntKind.i64.wrap ((a : Int) + 1 + (tt : Int)) = (a : Int) + 1 + (tt : Int) := Go.IntWalk.i64_in _ (by omega)
            clear hcall hnear hgs hmk hBX htt hsum hcap
            go_wp2_with fail
            refine HCALL.out.mono ?_
            rintro e w9 ⟨rfl, hb9⟩
            go_wp2_with fail
            exact ⟨⟨j, a + (1 + tt), by omega, rfl, by go_num, HSUM.out, bel_trans hbi hb9⟩, by simp [lenOf1]; have := HJ.out; omega⟩
      · obtain rfl : k = 0 := by omega
        have HN : Hid (a = tot) := by have := HA.out; simp only [growK, List.range_zero, List.map_nil, List.sum_nil, Nat.add_zero] at this; exact this
        clear hk0
        go_wp2
        go_ret
        exact ⟨by rw [HT.out, ← HN.out]; rfl, hb⟩
end Go.Proofs.Ytcgohceakjjlhaa
