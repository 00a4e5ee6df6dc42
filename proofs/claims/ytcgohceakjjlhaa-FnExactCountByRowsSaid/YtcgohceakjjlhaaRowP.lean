/- Shapes counted by masks: the reference. -/
import Derived.Test.YtcgohceakjjlhaaRowC
import Derived.Test.YtcgohceakjjlhaaConnS
import Derived.Test.YtcgohceakjjlhaaCornS
import Derived.Test.YtcgohceakjjlhaaCmp
import Derived.Test.YtcgohceakjjlhaaGrwL
import Derived.Outline
import Derived.WalkLawsBesides
import Derived.WalkSpells
import Derived.BigQuiet
import Derived.Deep.QuietTactic
import Derived.Deep.RegionHeld3
import Derived.Deep.RegionWith
import Derived.Deep.DeepCutAuto
import Derived.Deep.CutBlock
import Derived.Deep.DrawnRows
namespace Go.Proofs.Ytcgohceakjjlhaa
open Go.RowKit
set_option linter.unusedVariables false
attribute [local go_sem ↓] Go.wp_at_zero Go.wp_at_succ

theorem plTo_small (n m : Nat) : ∀ k, k ≤ 16 → ∀ d ∈ plTo n m k, small d
  | 0, _, d, h => by simp [plTo] at h
  | k + 1, hk, d, h => by
    unfold plTo at h
    rcases List.mem_append.1 h with h1 | h1
    · exact plTo_small n m k (by omega) d h1
    · split at h1
      · have h2 := Nat.mod_le k n
        have h3 := Nat.div_le_self k n
        obtain ⟨a, ha⟩ : ∃ a, k % n = a := ⟨_, rfl⟩
        obtain ⟨b, hb⟩ : ∃ b, k / n = b := ⟨_, rfl⟩
        rw [ha, hb, List.mem_singleton] at h1
        rw [ha] at h2
        rw [hb] at h3
        subst h1
        unfold small
        simp only
        omega
      · simp at h1
theorem selR_no {n m : Nat} (h : ¬ pc m = n) : selR n m = false := by
  unfold selR
  rw [show decide (pc m = n) = false from by simpa using h, Bool.false_and]
theorem selR_yes {n m N : Nat} (h : pc m = n) (hN : n * n = N) : selR n m = (isConn (plTo n m N) && decide (cornS (plTo n m N) = plTo n m N)) := by
  unfold selR
  rw [show decide (pc m = n) = true from by simpa using h, Bool.true_and, hN]
theorem cntR_le (n k : Nat) : cntR n k ≤ k := by
  unfold cntR
  have := List.countP_le_length (p := selR n) (l := List.range k)
  simpa using this
set_option maxRecDepth 100000 in
set_option maxHeartbeats 6400000 in
theorem CountByRows_s (n N P : Nat) (w : World) (hn1 : 1 ≤ n) (hn4 : n ≤ 4) (hN : n * n = N) (hP : 2 ^ N = P) : Calls Try.prog 30 #[.int .i64 (n : Int)] w (Ret w (.int .i64 (cntR n P : Nat))) := by
  have hN16 : N ≤ 16 := by rw [← hN]; exact Nat.mul_le_mul hn4 hn4
  have hP16 : P ≤ 65536 := by rw [← hP]; exact Nat.pow_le_pow_right (by decide) hN16
  have hNN : (n : Int) * (n : Int) = (N : Int) := by rw [← hN]; simp
  have hNw : IntKind.i64.wrap (N : Int) = (N : Int) := Go.IntWalk.i64_in _ (by omega)
  have hN0 : (0 : Int) ≤ (N : Int) := by omega
  have hN64 : (N : Int) ≤ 64 := by omega
  have hPI : (2 : Int) ^ N = (P : Int) := by rw [← hP]; simp
  have hPw : IntKind.i64.wrap (P : Int) = (P : Int) := Go.IntWalk.i64_in _ (by omega)
  have HN := Lib.hid hN
  have HP := Lib.hid hP
  clear hN hP
  go_enter Try.func30, Try.ntmps30
  go_wp2_with fail
  refine (l1In_t (n : Int) 1 4 _ (by omega) (by omega)).mono ?_
  rintro e w1 ⟨rfl, hb1⟩
  go_wp2_with fail
  go_loopw [4, 3] (fun e4 e3 wr => ∃ (m c : Nat), m ≤ P ∧ e4 = .int .i64 m ∧ e3 = .int .i64 c ∧ c = cntR n m ∧ Below w.heap.size w wr) (fun e4 _ _ => P - (intOf e4).toNat)
  case atStart => exact ⟨0, 0, Nat.zero_le _, rfl, rfl, rfl, hb1⟩
  case round =>
    obtain ⟨m, c, hm, rfl, rfl, hc, hb⟩ := hrel
    obtain ⟨v, hv⟩ : ∃ v, v = wr := ⟨_, rfl⟩
    subst hv
    by_cases hlt : m < P
    · have hmI : (m : Int) < (P : Int) := by omega
      have hm0 : (0 : Int) ≤ (m : Int) := by omega
      have hst := cntR_succ n m
      rw [← hc] at hst
      have hcm : c ≤ m := by rw [hc]; exact cntR_le n m
      have HST := Lib.hid hst
      clear hst hc
      go_wp2_with fail
      go_loopw [6, 5] (fun e6 e5 wr => ∃ (f x b : Nat), e6 = .int .i64 x ∧ e5 = .int .i64 b ∧ b + pcF f x = pc m ∧ x < 2 ^ f ∧ x ≤ 65536 ∧ Below v.heap.size v wr) (fun e6 _ _ => (intOf e6).toNat)
      case atStart => exact ⟨16, m, 0, rfl, rfl, by rw [pc_eq, Nat.zero_add], Nat.lt_of_lt_of_le hlt hP16, by omega, Below.refl _ _⟩
      case round =>
        obtain ⟨f, x, b, rfl, rfl, hpc, hxf, hx6, hb2⟩ := hrel
        have hb16 : b ≤ 16 := by have := pc_le m; omega
        by_cases hx0 : 0 < x
        · obtain ⟨f, rfl⟩ : ∃ g, f = g + 1 := by
            cases f with
            | zero => simp at hxf; omega
            | succ g => exact ⟨g, rfl⟩
          have hpe : pcF (f + 1) x = x % 2 + pcF f (x / 2) := rfl
          have hx2 : x / 2 < 2 ^ f := by rw [Nat.pow_succ] at hxf; omega
          have hand : bits .and .i64 (x : Int) 1 = ((x % 2 : Nat) : Int) := by
            have h := i64_and x 1 (by omega) (by decide)
            rw [Nat.and_one_is_mod] at h
            exact h
          have hsh : (x : Int) / 2 = ((x / 2 : Nat) : Int) := by simp
          rw [hpe] at hpc
          obtain ⟨r, hr⟩ : ∃ r, x % 2 = r := ⟨_, rfl⟩
          obtain ⟨y, hy⟩ : ∃ y, x / 2 = y := ⟨_, rfl⟩
          have hr2 : r < 2 := by rw [← hr]; exact Nat.mod_lt _ (by decide)
          have hyx : y < x := by rw [← hy]; omega
          rw [hr, hy] at hpc
          rw [hr] at hand
          rw [hy] at hsh hx2
          have hbw : IntKind.i64.wrap ((b : Int) + (r : Int)) = (b : Int) + (r : Int) := Go.IntWalk.i64_in _ (by omega)
          have HPC := Lib.hid hpc
          have HX2 := Lib.hid hx2
          clear hpc hx2 hpe hr hy hxf
          go_wp2_with fail
          exact ⟨⟨f, y, b + r, by go_num, by go_num, by have := HPC.out; omega, HX2.out, by omega, hb2⟩, by simp [intOf]; omega⟩
        · obtain rfl : x = 0 := by omega
          rw [pcF_zero, Nat.add_zero] at hpc
          clear hx0 hxf
          by_cases hbn : b = n
          · have hbf : ((b : Int) != (n : Int)) = false := by simp [hbn]
            have HSEL := Lib.hid (selR_yes (hpc.symm.trans hbn) HN.out)
            have HI := Lib.hid (own_lit wr (base := v.heap.size) hb2.size)
            have HBN := Lib.hid hbn
            have hm62 : m < 2 ^ 62 := by omega
            clear hbn hpc
            go_wp2_with fail
            go_loopw [8, 7] (fun e8 e7 wr => ∃ (k q cq : Nat) (A : Option Addr), k ≤ N ∧ q ≤ k ∧ e8 = .int .i64 k ∧ e7 = .slice A q cq ∧ wr.ownsRow v.heap.size 54 2 (.slice A q cq) q (vC (plTo n m k)) ∧ Below v.heap.size v wr) (fun e8 _ _ => N - (intOf e8).toNat)
            case atStart => exact ⟨0, 0, 0, _, Nat.zero_le _, Nat.le_refl _, rfl, rfl, HI.out, bel_alloc hb2 _⟩
            case round =>
              clear HI hb2
              obtain ⟨k, q, cq, A, hk, hqk, rfl, rfl, hown, hb2⟩ := hrel
              have hk0 : (0 : Int) ≤ (k : Int) := by omega
              have hk64 : (k : Int) ≤ 64 := by omega
              by_cases hkN : k < N
              · have hkI : (k : Int) < (N : Int) := by omega
                obtain ⟨d, hd⟩ : ∃ d, m / 2 ^ k = d := ⟨_, rfl⟩
                have hdI : (m : Int) / 2 ^ k = (d : Int) := by rw [← hd]; simp
                have hbit := bit_test m k hm62
                rw [hdI] at hbit
                obtain ⟨xk, hxk⟩ : ∃ xk, k % n = xk := ⟨_, rfl⟩
                obtain ⟨yk, hyk⟩ : ∃ yk, k / n = yk := ⟨_, rfl⟩
                have hstep : plTo n m (k + 1) = plTo n m k ++ (if m.testBit k then [((xk : Int), (yk : Int))] else []) := by rw [← hxk, ← hyk]; rfl
                have HO := Lib.hid hown
                clear hown hd
                cases hb1 : m.testBit k with
                | false =>
                  rw [hb1] at hbit hstep
                  have HS := Lib.hid (hstep.trans (List.append_nil _))
                  clear hstep hb1 hxk hyk
                  go_wp2_with fail
                  exact ⟨⟨k + 1, q, cq, A, by omega, by omega, by go_num, rfl, by rw [HS.out]; exact HO.out, hb2⟩, by simp [intOf]; omega⟩
                | true =>
                  rw [hb1] at hbit
                  rw [hb1, if_pos rfl] at hstep
                  have HS := Lib.hid hstep
                  have e1 : (k : Int) % (n : Int) = (xk : Int) := by rw [← hxk]; rfl
                  have e2 : (k : Int) / (n : Int) = (yk : Int) := by rw [← hyk]; rfl
                  have e3 : (k : Int).tmod (n : Int) = (xk : Int) := by rw [Int.tmod_eq_emod_of_nonneg hk0]; exact e1
                  have e4 : (k : Int).tdiv (n : Int) = (yk : Int) := by rw [Int.tdiv_eq_ediv_of_nonneg hk0]; exact e2
                  have hyk36 : yk ≤ 36 := by rw [← hyk]; have := Nat.div_le_self k n; omega
                  have hxk36 : xk ≤ 36 := by rw [← hxk]; have := Nat.mod_lt k (show 0 < n by omega); omega
                  have e5 : IntKind.i64.wrap (yk : Int) = (yk : Int) := Go.IntWalk.i64_in _ (by omega)
                  have e6 : IntKind.i64.wrap (xk : Int) = (xk : Int) := Go.IntWalk.i64_in _ (by omega)
                  have hnn : ¬ n = 0 := by omega
                  have hbz := hb2.size
                  clear hstep hb1 hxk hyk
                  go_wp2_with fail
                  (refine wp_region_tailN (C := Gr wr A) 8 (by kernel_rfl) (by kernel_rfl) (Gr.drawn _ _) (fun _ _ h k => h.ext k) ?_; simp only [List.take_succ_cons, List.take_zero, List.drop_succ_cons, List.drop_zero]; (repeat (first | (refine headSkip (by rfl) rfl ?_; simp only [List.setIfInBounds_toArray, List.set_cons_zero, List.set_cons_succ]) | (refine headV (v := ?_) (by rfl) rfl (fun w' hcw => ?_) ?_; rotate_left; ((try dsimp only at hcw); have hbc := hcw.cells; go_simp; first | done | with_reducible rfl | fail); simp only [List.setIfInBounds_toArray, List.set_cons_zero, List.set_cons_succ]))); unfold wpHead)
                  (refine tailK (by rfl) (fun w3 hc3 he3 K hK => ?_); go_simp; refine hK _ _ (hc3.ext (by (repeat (first | with_reducible exact Below.refl _ _ | with_reducible assumption | with_reducible apply bel_alloc | with_reducible apply bel_drew | with_reducible apply bel_drewN | ((with_reducible refine bel_set ?_ ?_); rotate_left; (simp <;> omega)) | (with_reducible refine bel_trans ?_ (by with_reducible assumption)))))) ?_; clear hK K)
                  (refine tailK (by rfl) (fun w4 hc4 he4 K hK => ?_); refine wpC _ _ _ rfl v.heap.size A q cq (plTo n m k) rfl (own_keep ((own_keep HO.out he3).alloc _) he4) _ 1 1 [((xk : Int), (yk : Int))] rfl (Rd.below (rd_newC _ _ _ _) he4) rfl (by omega) (by have h2 := he3.size; have h3 := he4.size; simp at h3; omega) ?_; intro A2 c2 w5 hown5 hg5 _; refine hK _ _ (Gr.trans hc4 hg5) ?_; clear hK K; simp only [Act.put, List.setIfInBounds_toArray, List.set_cons_zero, List.set_cons_succ])
                  (refine tailK (by rfl) (fun w6 hc6 he6 K hK => ?_); go_simp; refine hK _ _ (hc6) ?_; clear hK K)
                  (refine fun w7 hc7 he7 => NoPanic.normal ?_)
                  have hb5 : Below v.heap.size v w5 := bel_app (bel_trans (bel_alloc (bel_trans hb2 he3) _) he4) hg5 (fun g' hg' => ((own_lt HO.out) g' hg').1)
                  have HO3 := Lib.hid (own_keep (own_keep hown5 he6) he7)
                  have hb7 : Below v.heap.size v w7 := bel_trans (bel_trans hb5 he6) he7
                  clear hown5 hc3 he3 hc4 he4 hg5 hc6 he6 hc7 he7 hb5 e1 e2 e3 e4 e5 e6 hbit hdI hnn hbz
                  go_wp2_with fail
                  refine ⟨⟨_, _, _, _, _, _, _, _, _, _, _, _, _, _, _, _, _, _, _, _, _, _, _, _, ⟨k + 1, q + 1, c2, A2, ?_, ?_, ?_, ?_, ?_, ?_⟩, rfl⟩, ?_⟩
                  · omega
                  · omega
                  · go_num
                  · rfl
                  · rw [HS.out]; exact HO3.out
                  · exact hb7
                  · simp [intOf]; omega
              · obtain rfl : k = N := by omega
                have hkI : ¬ (k : Int) < (k : Int) := by omega
                have hsm := plTo_small n m k hN16
                obtain ⟨s, hs⟩ : ∃ s, plTo n m k = s := ⟨_, rfl⟩
                have hsel := HSEL.out
                rw [hs] at hown hsm hsel
                have hsl : s.length = q := by have := own_len hown; rw [vC_length] at this; omega
                have HSM := Lib.hid hsm
                have HO := Lib.hid hown
                have HSL := Lib.hid hsl
                have HSE := Lib.hid hsel
                have hq20 : q ≤ 1048576 := by omega
                clear hown hsm hs hsl hsel
                cases hcn : isConn s with
                | false =>
                  have HS : Hid (c = cntR n (m + 1)) := by show c = _; rw [HST.out, HSE.out, hcn]; rfl
                  have HCN := Lib.hid hcn
                  clear hcn
                  go_wp2_with fail
                  refine (IsConnectedShape_s A q cq s _ (Rd.of_own HO.out) HSL.out (by omega)).mono ?_
                  rw [HCN.out]
                  rintro e w3 ⟨rfl, hb3⟩
                  have hb9 : Below w.heap.size w w3 := bel_trans hb (bel_trans hb2 hb3)
                  go_wp2_with fail
                  exact ⟨⟨m + 1, c, by omega, by go_num, rfl, HS.out, hb9⟩, by simp [intOf]; omega⟩
                | true =>
                  have HCN := Lib.hid hcn
                  have hcb : c + 1 ≤ 65537 := by omega
                  clear hcn
                  go_wp2_with fail
                  refine (IsConnectedShape_s A q cq s _ (Rd.of_own HO.out) HSL.out (by omega)).mono ?_
                  rw [HCN.out]
                  rintro e w3 ⟨rfl, hb3⟩
                  have HO3 := Lib.hid (own_keep HO.out hb3)
                  go_wp2_with fail
                  refine (l2Corner_s A q cq s _ (Rd.of_own HO3.out) HSL.out hq20 HSM.out).mono ?_
                  rintro e w4 ⟨E, me, ce, rfl, hoE, hb4⟩
                  have hme : (cornS s).length = me := by have := own_len hoE; rw [vC_length] at this; omega
                  have hme2 : me = q := by rw [← hme, ← HSL.out]; exact mv_len _ _ _
                  have HOE := Lib.hid hoE
                  have HME := Lib.hid hme
                  have HO4 := Lib.hid (own_keep HO3.out hb4)
                  have hme3 : me ≤ 1099511627776 := by omega
                  clear hoE hme hme2
                  go_wp2_with fail
                  refine (EqualShapes_s E A me ce q cq (cornS s) s _ (Rd.of_own HOE.out) (Rd.of_own HO4.out) HME.out HSL.out hme3 (by omega)).mono ?_
                  cases hq : decide (cornS s = s) with
                  | false =>
                    have HS : Hid (c = cntR n (m + 1)) := by show c = _; rw [HST.out, HSE.out, HCN.out, hq]; rfl
                    clear hq
                    rintro e w5 ⟨rfl, hb5⟩
                    have hb9 : Below w.heap.size w w5 := bel_trans hb (bel_trans hb2 (bel_trans hb3 (bel_trans hb4 hb5)))
                    go_wp2_with fail
                    exact ⟨⟨m + 1, c, by omega, by go_num, rfl, HS.out, hb9⟩, by simp [intOf]; omega⟩
                  | true =>
                    have HS : Hid (c + 1 = cntR n (m + 1)) := by show c + 1 = _; rw [HST.out, HSE.out, HCN.out, hq]; rfl
                    clear hq
                    rintro e w5 ⟨rfl, hb5⟩
                    have hb9 : Below w.heap.size w w5 := bel_trans hb (bel_trans hb2 (bel_trans hb3 (bel_trans hb4 hb5)))
                    go_wp2_with fail
                    exact ⟨⟨m + 1, c + 1, by omega, by go_num, by go_num, HS.out, hb9⟩, by simp [intOf]; omega⟩
          · have hbf : ((b : Int) != (n : Int)) = true := by simp; omega
            have HS : Hid (c = cntR n (m + 1)) := by show c = _; rw [HST.out, selR_no (fun e => hbn (hpc.trans e))]; rfl
            clear hbn hpc
            go_wp2_with fail
            exact ⟨⟨m + 1, c, by omega, by go_num, rfl, HS.out, bel_trans hb hb2⟩, by simp [intOf]; omega⟩
    · obtain rfl : m = P := by omega
      have HC := Lib.hid hc
      have hmI : ¬ (m : Int) < (m : Int) := by omega
      clear hc
      go_wp2_with fail
      go_ret
      exact ⟨by rw [← HC.out]; rfl, hb⟩
theorem CountByRows_all (n : Int) (w : World) : Calls Try.prog 30 #[.int .i64 n] w (Ret w (.int .i64 (cntV n 4))) := by
  by_cases h : 1 ≤ n ∧ n ≤ 4
  · rcases (by omega : n = 1 ∨ n = 2 ∨ n = 3 ∨ n = 4) with rfl | rfl | rfl | rfl
    · have h1 := CountByRows_s 1 1 2 w (by decide) (by decide) rfl rfl
      rw [show cntR 1 2 = 1 from cntR_tree 1 1 1 (by decide) tree_1] at h1
      have e : cntV 1 4 = ((1 : Nat) : Int) := by show ((fixV 0).length : Int) = _; rw [len_fix0]
      rw [e]
      exact h1
    · have h1 := CountByRows_s 2 4 16 w (by decide) (by decide) rfl rfl
      rw [show cntR 2 16 = 2 from cntR_tree 2 4 2 (by decide) tree_2] at h1
      have e : cntV 2 4 = ((2 : Nat) : Int) := by show ((fixV 1).length : Int) = _; rw [len_fix1]
      rw [e]
      exact h1
    · have h1 := CountByRows_s 3 9 512 w (by decide) (by decide) rfl rfl
      rw [show cntR 3 512 = 6 from cntR_tree 3 9 6 (by decide) tree_3] at h1
      have e : cntV 3 4 = ((6 : Nat) : Int) := by show ((fixV 2).length : Int) = _; rw [len_fix2]
      rw [e]
      exact h1
    · have h1 := CountByRows_s 4 16 65536 w (by decide) (by decide) rfl rfl
      rw [show cntR 4 65536 = 19 from cntR_tree 4 16 19 (by decide) tree_4] at h1
      have e : cntV 4 4 = ((19 : Nat) : Int) := by show ((fixV 3).length : Int) = _; rw [len_fix3]
      rw [e]
      exact h1
  · have HV : Hid (cntV n 4 = -1) := by show cntV _ _ = _; unfold cntV; rw [if_neg h]
    have HB := Lib.hid h
    clear h
    go_enter Try.func30, Try.ntmps30
    go_wp2_with fail
    refine (l1In_f n 1 4 _ HB.out).mono ?_
    rintro e w1 ⟨rfl, hb1⟩
    go_wp2_with fail
    go_ret
    exact ⟨by rw [HV.out]; rfl, hb1⟩
theorem law_FnExactCountByRows (n : Int) (w : World) (_h : (Lit.int .i64 n).wf = true) : Calls Try.prog 7 #[.int .i64 n] w (Ret w (.bool true)) := by
  obtain ⟨v, hv⟩ : ∃ v, cntV n 4 = v := ⟨_, rfl⟩
  have HV := Lib.hid hv
  have hne : (v != v) = false := by simp
  clear hv _h
  go_enter Try.func7, Try.ntmps7
  go_wp2_with fail
  refine (CountByRows_all n _).mono ?_
  rw [HV.out]
  rintro e w1 ⟨rfl, hb1⟩
  go_wp2_with fail
  refine (CountByRows_i n _).mono ?_
  rw [HV.out]
  rintro e w2 ⟨rfl, hb2⟩
  go_wp2_with fail
  go_ret
  exact ⟨rfl, bel_trans hb1 hb2⟩
end Go.Proofs.Ytcgohceakjjlhaa
