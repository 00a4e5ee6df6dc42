/- Texts of this claim, one behind the other: part 6. -/
import Derived.Test.YtkcgdnnipohehaaGreatDoorU5FnFree
import Derived.Outline
import Derived.WalkLawsBesides
import Derived.WalkSpells
import Derived.BigQuiet
import Derived.Deep.QuietTactic
import Derived.Deep.RegionHeld3
import Derived.Deep.RegionWith
import Derived.Deep.DeepCutAuto
import Derived.Deep.CutBlock
import Derived.Deep.DrawnRows
/- Shapes counted by masks: the reference. -/
namespace Go.Proofs.YtkcgdnnipohehaaGreatDoor
open Go.RowKit
set_option linter.unusedVariables false
attribute [local go_sem ↓] Go.wp_at_zero Go.wp_at_succ

theorem bit_testR (m k : Nat) (hm : m < 2 ^ 62) : (bits .and .i64 ((m : Int) / 2 ^ k) 1 == 1) = m.testBit k := by
  have e : ((m : Int) / 2 ^ k) = ((m / 2 ^ k : Nat) : Int) := by simp
  have hle := Nat.div_le_self m (2 ^ k)
  have h1 := i64_and (m / 2 ^ k) 1 (by omega) (by decide)
  rw [e, show (1 : Int) = ((1 : Nat) : Int) from rfl, h1, Nat.and_one_is_mod, bit_and]
  cases m.testBit k <;> rfl
theorem plTo_small (n m : Nat) : ∀ k, k ≤ 16 → ∀ d ∈ plTo n m k, small d
  | 0, _, d, h => by simp [plTo] at h
  | k + 1, hk, d, h => by
    unfold plTo at h
    rcases List.mem_append.1 h with h1 | h1
    · exact plTo_small n m k (by omega) d h1
    · split at h1
      · have h2 := Nat.mod_le k n
        have h3 := Nat.div_le_self k n
        obtain ⟨a, ha⟩ : ∃ a, k % n = a := ⟨_, rfl⟩
        obtain ⟨b, hb⟩ : ∃ b, k / n = b := ⟨_, rfl⟩
        rw [ha, hb, List.mem_singleton] at h1
        rw [ha] at h2
        rw [hb] at h3
        subst h1
        unfold small
        simp only
        omega
      · simp at h1
theorem selR_no {n m : Nat} (h : ¬ pc m = n) : selR n m = false := by
  unfold selR
  rw [show decide (pc m = n) = false from by simpa using h, Bool.false_and]
theorem selR_yes {n m N : Nat} (h : pc m = n) (hN : n * n = N) : selR n m = (isConn (plTo n m N) && decide (cornS (plTo n m N) = plTo n m N)) := by
  unfold selR
  rw [show decide (pc m = n) = true from by simpa using h, Bool.true_and, hN]
theorem cntR_le (n k : Nat) : cntR n k ≤ k := by
  unfold cntR
  have := List.countP_le_length (p := selR n) (l := List.range k)
  simpa using this
set_option maxRecDepth 100000 in
set_option maxHeartbeats 6400000 in
theorem CountByRows_s (n N P : Nat) (w : World) (hn1 : 1 ≤ n) (hn4 : n ≤ 4) (hN : n * n = N) (hP : 2 ^ N = P) : Calls Tryz.prog 54 #[.int .i64 (n : Int)] w (Ret w (.int .i64 (cntR n P : Nat))) := by
  have hN16 : N ≤ 16 := by rw [← hN]; exact Nat.mul_le_mul hn4 hn4
  have hP16 : P ≤ 65536 := by rw [← hP]; exact Nat.pow_le_pow_right (by decide) hN16
  have hNN : (n : Int) * (n : Int) = (N : Int) := by rw [← hN]; simp
  have hNw : IntKind.i64.wrap (N : Int) = (N : Int) := Go.IntWalk.i64_in _ (by omega)
  have hN0 : (0 : Int) ≤ (N : Int) := by omega
  have hN64 : (N : Int) ≤ 64 := by omega
  have hPI : (2 : Int) ^ N = (P : Int) := by rw [← hP]; simp
  have hPw : IntKind.i64.wrap (P : Int) = (P : Int) := Go.IntWalk.i64_in _ (by omega)
  have HN := Lib.hid hN
  have HP := Lib.hid hP
  clear hN hP
  go_enter Tryz.func54, Tryz.ntmps54
  go_wp2_with fail
  refine (l1In_t (n : Int) 1 4 _ (by omega) (by omega)).mono ?_
  rintro e w1 ⟨rfl, hb1⟩
  go_wp2_with fail
  go_loopw [4, 3] (fun e4 e3 wr => ∃ (m c : Nat), m ≤ P ∧ e4 = .int .i64 m ∧ e3 = .int .i64 c ∧ c = cntR n m ∧ Below w.heap.size w wr) (fun e4 _ _ => P - (intOf e4).toNat)
  case atStart => exact ⟨0, 0, Nat.zero_le _, rfl, rfl, rfl, hb1⟩
  case round =>
    obtain ⟨m, c, hm, rfl, rfl, hc, hb⟩ := hrel
    obtain ⟨v, hv⟩ : ∃ v, v = wr := ⟨_, rfl⟩
    subst hv
    by_cases hlt : m < P
    · have hmI : (m : Int) < (P : Int) := by omega
      have hm0 : (0 : Int) ≤ (m : Int) := by omega
      have hst := cntR_succ n m
      rw [← hc] at hst
      have hcm : c ≤ m := by rw [hc]; exact cntR_le n m
      have HST := Lib.hid hst
      clear hst hc
      go_wp2_with fail
      go_loopw [6, 5] (fun e6 e5 wr => ∃ (f x b : Nat), e6 = .int .i64 x ∧ e5 = .int .i64 b ∧ b + pcF f x = pc m ∧ x < 2 ^ f ∧ x ≤ 65536 ∧ Below v.heap.size v wr) (fun e6 _ _ => (intOf e6).toNat)
      case atStart => exact ⟨16, m, 0, rfl, rfl, by rw [pc_eq, Nat.zero_add], Nat.lt_of_lt_of_le hlt hP16, by omega, Below.refl _ _⟩
      case round =>
        obtain ⟨f, x, b, rfl, rfl, hpc, hxf, hx6, hb2⟩ := hrel
        have hb16 : b ≤ 16 := by have := pc_le m; omega
        by_cases hx0 : 0 < x
        · obtain ⟨f, rfl⟩ : ∃ g, f = g + 1 := by
            cases f with
            | zero => simp at hxf; omega
            | succ g => exact ⟨g, rfl⟩
          have hpe : pcF (f + 1) x = x % 2 + pcF f (x / 2) := rfl
          have hx2 : x / 2 < 2 ^ f := by rw [Nat.pow_succ] at hxf; omega
          have hand : bits .and .i64 (x : Int) 1 = ((x % 2 : Nat) : Int) := by
            have h := i64_and x 1 (by omega) (by decide)
            rw [Nat.and_one_is_mod] at h
            exact h
          have hsh : (x : Int) / 2 = ((x / 2 : Nat) : Int) := by simp
          rw [hpe] at hpc
          obtain ⟨r, hr⟩ : ∃ r, x % 2 = r := ⟨_, rfl⟩
          obtain ⟨y, hy⟩ : ∃ y, x / 2 = y := ⟨_, rfl⟩
          have hr2 : r < 2 := by rw [← hr]; exact Nat.mod_lt _ (by decide)
          have hyx : y < x := by rw [← hy]; omega
          rw [hr, hy] at hpc
          rw [hr] at hand
          rw [hy] at hsh hx2
          have hbw : IntKind.i64.wrap ((b : Int) + (r : Int)) = (b : Int) + (r : Int) := Go.IntWalk.i64_in _ (by omega)
          have HPC := Lib.hid hpc
          have HX2 := Lib.hid hx2
          clear hpc hx2 hpe hr hy hxf
          go_wp2_with fail
          exact ⟨⟨f, y, b + r, by go_num, by go_num, by have := HPC.out; omega, HX2.out, by omega, hb2⟩, by simp [intOf]; omega⟩
        · obtain rfl : x = 0 := by omega
          rw [pcF_zero, Nat.add_zero] at hpc
          clear hx0 hxf
          by_cases hbn : b = n
          · have hbf : ((b : Int) != (n : Int)) = false := by simp [hbn]
            have HSEL := Lib.hid (selR_yes (hpc.symm.trans hbn) HN.out)
            have HI := Lib.hid (own_lit wr (base := v.heap.size) hb2.size)
            have HBN := Lib.hid hbn
            have hm62 : m < 2 ^ 62 := by omega
            clear hbn hpc
            go_wp2_with fail
            go_loopw [8, 7] (fun e8 e7 wr => ∃ (k q cq : Nat) (A : Option Addr), k ≤ N ∧ q ≤ k ∧ e8 = .int .i64 k ∧ e7 = .slice A q cq ∧ wr.ownsRow v.heap.size 87 2 (.slice A q cq) q (vC (plTo n m k)) ∧ Below v.heap.size v wr) (fun e8 _ _ => N - (intOf e8).toNat)
            case atStart => exact ⟨0, 0, 0, _, Nat.zero_le _, Nat.le_refl _, rfl, rfl, HI.out, bel_alloc hb2 _⟩
            case round =>
              clear HI hb2
              obtain ⟨k, q, cq, A, hk, hqk, rfl, rfl, hown, hb2⟩ := hrel
              have hk0 : (0 : Int) ≤ (k : Int) := by omega
              have hk64 : (k : Int) ≤ 64 := by omega
              by_cases hkN : k < N
              · have hkI : (k : Int) < (N : Int) := by omega
                obtain ⟨d, hd⟩ : ∃ d, m / 2 ^ k = d := ⟨_, rfl⟩
                have hdI : (m : Int) / 2 ^ k = (d : Int) := by rw [← hd]; simp
                have hbit := bit_testR m k hm62
                rw [hdI] at hbit
                obtain ⟨xk, hxk⟩ : ∃ xk, k % n = xk := ⟨_, rfl⟩
                obtain ⟨yk, hyk⟩ : ∃ yk, k / n = yk := ⟨_, rfl⟩
                have hstep : plTo n m (k + 1) = plTo n m k ++ (if m.testBit k then [((xk : Int), (yk : Int))] else []) := by rw [← hxk, ← hyk]; rfl
                have HO := Lib.hid hown
                clear hown hd
                cases hb1 : m.testBit k with
                | false =>
                  rw [hb1] at hbit hstep
                  have HS := Lib.hid (hstep.trans (List.append_nil _))
                  clear hstep hb1 hxk hyk
                  go_wp2_with fail
                  exact ⟨⟨k + 1, q, cq, A, by omega, by omega, by go_num, rfl, by rw [HS.out]; exact HO.out, hb2⟩, by simp [intOf]; omega⟩
                | true =>
                  rw [hb1] at hbit
                  rw [hb1, if_pos rfl] at hstep
                  have HS := Lib.hid hstep
                  have e1 : (k : Int) % (n : Int) = (xk : Int) := by rw [← hxk]; rfl
                  have e2 : (k : Int) / (n : Int) = (yk : Int) := by rw [← hyk]; rfl
                  have e3 : (k : Int).tmod (n : Int) = (xk : Int) := by rw [Int.tmod_eq_emod_of_nonneg hk0]; exact e1
                  have e4 : (k : Int).tdiv (n : Int) = (yk : Int) := by rw [Int.tdiv_eq_ediv_of_nonneg hk0]; exact e2
                  have hyk36 : yk ≤ 36 := by rw [← hyk]; have := Nat.div_le_self k n; omega
                  have hxk36 : xk ≤ 36 := by rw [← hxk]; have := Nat.mod_lt k (show 0 < n by omega); omega
                  have e5 : IntKind.i64.wrap (yk : Int) = (yk : Int) := Go.IntWalk.i64_in _ (by omega)
                  have e6 : IntKind.i64.wrap (xk : Int) = (xk : Int) := Go.IntWalk.i64_in _ (by omega)
                  have hnn : ¬ n = 0 := by omega
                  have hbz := hb2.size
                  clear hstep hb1 hxk hyk
                  go_wp2_with fail
                  (refine wp_region_tailN (C := Gr wr A) 8 (by kernel_rfl) (by kernel_rfl) (Gr.drawn _ _) (fun _ _ h k => h.ext k) ?_; simp only [List.take_succ_cons, List.take_zero, List.drop_succ_cons, List.drop_zero]; (repeat (first | (refine headSkip (by rfl) rfl ?_; simp only [List.setIfInBounds_toArray, List.set_cons_zero, List.set_cons_succ]) | (refine headV (v := ?_) (by rfl) rfl (fun w' hcw => ?_) ?_; rotate_left; ((try dsimp only at hcw); have hbc := hcw.cells; go_simp; first | done | with_reducible rfl | fail); simp only [List.setIfInBounds_toArray, List.set_cons_zero, List.set_cons_succ]))); unfold wpHead)
                  (refine tailK (by rfl) (fun w3 hc3 he3 K hK => ?_); go_simp; refine hK _ _ (hc3.ext (by (repeat (first | with_reducible exact Below.refl _ _ | with_reducible assumption | with_reducible apply bel_alloc | with_reducible apply bel_drew | with_reducible apply bel_drewN | ((with_reducible refine bel_set ?_ ?_); rotate_left; (simp <;> omega)) | (with_reducible refine bel_trans ?_ (by with_reducible assumption)))))) ?_; clear hK K)
                  (refine tailK (by rfl) (fun w4 hc4 he4 K hK => ?_); refine wpC _ _ _ rfl v.heap.size A q cq (plTo n m k) rfl (own_keep ((own_keep HO.out he3).alloc _) he4) _ 1 1 [((xk : Int), (yk : Int))] rfl (Rd.below (rd_newC _ _ _ _) he4) rfl (by omega) (by have h2 := he3.size; have h3 := he4.size; simp at h3; omega) ?_; intro A2 c2 w5 hown5 hg5 _; refine hK _ _ (Gr.trans hc4 hg5) ?_; clear hK K; simp only [Act.put, List.setIfInBounds_toArray, List.set_cons_zero, List.set_cons_succ])
                  (refine tailK (by rfl) (fun w6 hc6 he6 K hK => ?_); go_simp; refine hK _ _ (hc6) ?_; clear hK K)
                  (refine fun w7 hc7 he7 => NoPanic.normal ?_)
                  have hb5 : Below v.heap.size v w5 := bel_app (bel_trans (bel_alloc (bel_trans hb2 he3) _) he4) hg5 (fun g' hg' => ((own_lt HO.out) g' hg').1)
                  have HO3 := Lib.hid (own_keep (own_keep hown5 he6) he7)
                  have hb7 : Below v.heap.size v w7 := bel_trans (bel_trans hb5 he6) he7
                  clear hown5 hc3 he3 hc4 he4 hg5 hc6 he6 hc7 he7 hb5 e1 e2 e3 e4 e5 e6 hbit hdI hnn hbz
                  go_wp2_with fail
                  refine ⟨⟨_, _, _, _, _, _, _, _, _, _, _, _, _, _, _, _, _, _, _, _, _, _, _, _, ⟨k + 1, q + 1, c2, A2, ?_, ?_, ?_, ?_, ?_, ?_⟩, rfl⟩, ?_⟩
                  · omega
                  · omega
                  · go_num
                  · rfl
                  · rw [HS.out]; exact HO3.out
                  · exact hb7
                  · simp [intOf]; omega
              · obtain rfl : k = N := by omega
                have hkI : ¬ (k : Int) < (k : Int) := by omega
                have hsm := plTo_small n m k hN16
                obtain ⟨s, hs⟩ : ∃ s, plTo n m k = s := ⟨_, rfl⟩
                have hsel := HSEL.out
                rw [hs] at hown hsm hsel
                have hsl : s.length = q := by have := own_len hown; rw [vC_length] at this; omega
                have HSM := Lib.hid hsm
                have HO := Lib.hid hown
                have HSL := Lib.hid hsl
                have HSE := Lib.hid hsel
                have hq20 : q ≤ 1048576 := by omega
                clear hown hsm hs hsl hsel
                cases hcn : isConn s with
                | false =>
                  have HS : Hid (c = cntR n (m + 1)) := by show c = _; rw [HST.out, HSE.out, hcn]; rfl
                  have HCN := Lib.hid hcn
                  clear hcn
                  go_wp2_with fail
                  refine (IsConnectedShape_s A q cq s _ (Rd.of_own HO.out) HSL.out (by omega)).mono ?_
                  rw [HCN.out]
                  rintro e w3 ⟨rfl, hb3⟩
                  have hb9 : Below w.heap.size w w3 := bel_trans hb (bel_trans hb2 hb3)
                  go_wp2_with fail
                  exact ⟨⟨m + 1, c, by omega, by go_num, rfl, HS.out, hb9⟩, by simp [intOf]; omega⟩
                | true =>
                  have HCN := Lib.hid hcn
                  have hcb : c + 1 ≤ 65537 := by omega
                  clear hcn
                  go_wp2_with fail
                  refine (IsConnectedShape_s A q cq s _ (Rd.of_own HO.out) HSL.out (by omega)).mono ?_
                  rw [HCN.out]
                  rintro e w3 ⟨rfl, hb3⟩
                  have HO3 := Lib.hid (own_keep HO.out hb3)
                  go_wp2_with fail
                  refine (l2Corner_s A q cq s _ (Rd.of_own HO3.out) HSL.out hq20 HSM.out).mono ?_
                  rintro e w4 ⟨E, me, ce, rfl, hoE, hb4⟩
                  have hme : (cornS s).length = me := by have := own_len hoE; rw [vC_length] at this; omega
                  have hme2 : me = q := by rw [← hme, ← HSL.out]; exact mv_len _ _ _
                  have HOE := Lib.hid hoE
                  have HME := Lib.hid hme
                  have HO4 := Lib.hid (own_keep HO3.out hb4)
                  have hme3 : me ≤ 1099511627776 := by omega
                  clear hoE hme hme2
                  go_wp2_with fail
                  refine (EqualShapes_s E A me ce q cq (cornS s) s _ (Rd.of_own HOE.out) (Rd.of_own HO4.out) HME.out HSL.out hme3 (by omega)).mono ?_
                  cases hq : decide (cornS s = s) with
                  | false =>
                    have HS : Hid (c = cntR n (m + 1)) := by show c = _; rw [HST.out, HSE.out, HCN.out, hq]; rfl
                    clear hq
                    rintro e w5 ⟨rfl, hb5⟩
                    have hb9 : Below w.heap.size w w5 := bel_trans hb (bel_trans hb2 (bel_trans hb3 (bel_trans hb4 hb5)))
                    go_wp2_with fail
                    exact ⟨⟨m + 1, c, by omega, by go_num, rfl, HS.out, hb9⟩, by simp [intOf]; omega⟩
                  | true =>
                    have HS : Hid (c + 1 = cntR n (m + 1)) := by show c + 1 = _; rw [HST.out, HSE.out, HCN.out, hq]; rfl
                    clear hq
                    rintro e w5 ⟨rfl, hb5⟩
                    have hb9 : Below w.heap.size w w5 := bel_trans hb (bel_trans hb2 (bel_trans hb3 (bel_trans hb4 hb5)))
                    go_wp2_with fail
                    exact ⟨⟨m + 1, c + 1, by omega, by go_num, by go_num, HS.out, hb9⟩, by simp [intOf]; omega⟩
          · have hbf : ((b : Int) != (n : Int)) = true := by simp; omega
            have HS : Hid (c = cntR n (m + 1)) := by show c = _; rw [HST.out, selR_no (fun e => hbn (hpc.trans e))]; rfl
            clear hbn hpc
            go_wp2_with fail
            exact ⟨⟨m + 1, c, by omega, by go_num, rfl, HS.out, bel_trans hb hb2⟩, by simp [intOf]; omega⟩
    · obtain rfl : m = P := by omega
      have HC := Lib.hid hc
      have hmI : ¬ (m : Int) < (m : Int) := by omega
      clear hc
      go_wp2_with fail
      go_ret
      exact ⟨by rw [← HC.out]; rfl, hb⟩
theorem CountByRows_all (n : Int) (w : World) : Calls Tryz.prog 54 #[.int .i64 n] w (Ret w (.int .i64 (cntV n 4))) := by
  by_cases h : 1 ≤ n ∧ n ≤ 4
  · rcases (by omega : n = 1 ∨ n = 2 ∨ n = 3 ∨ n = 4) with rfl | rfl | rfl | rfl
    · have h1 := CountByRows_s 1 1 2 w (by decide) (by decide) rfl rfl
      rw [show cntR 1 2 = 1 from cntR_tree 1 1 1 (by decide) tree_1] at h1
      have e : cntV 1 4 = ((1 : Nat) : Int) := by show ((fixV 0).length : Int) = _; rw [len_fix0]
      rw [e]
      exact h1
    · have h1 := CountByRows_s 2 4 16 w (by decide) (by decide) rfl rfl
      rw [show cntR 2 16 = 2 from cntR_tree 2 4 2 (by decide) tree_2] at h1
      have e : cntV 2 4 = ((2 : Nat) : Int) := by show ((fixV 1).length : Int) = _; rw [len_fix1]
      rw [e]
      exact h1
    · have h1 := CountByRows_s 3 9 512 w (by decide) (by decide) rfl rfl
      rw [show cntR 3 512 = 6 from cntR_tree 3 9 6 (by decide) tree_3] at h1
      have e : cntV 3 4 = ((6 : Nat) : Int) := by show ((fixV 2).length : Int) = _; rw [len_fix2]
      rw [e]
      exact h1
    · have h1 := CountByRows_s 4 16 65536 w (by decide) (by decide) rfl rfl
      rw [show cntR 4 65536 = 19 from cntR_tree 4 16 19 (by decide) tree_4] at h1
      have e : cntV 4 4 = ((19 : Nat) : Int) := by show ((fixV 3).length : Int) = _; rw [len_fix3]
      rw [e]
      exact h1
  · have HV : Hid (cntV n 4 = -1) := by show cntV _ _ = _; unfold cntV; rw [if_neg h]
    have HB := Lib.hid h
    clear h
    go_enter Tryz.func54, Tryz.ntmps54
    go_wp2_with fail
    refine (l1In_f n 1 4 _ HB.out).mono ?_
    rintro e w1 ⟨rfl, hb1⟩
    go_wp2_with fail
    go_ret
    exact ⟨by rw [HV.out]; rfl, hb1⟩
end Go.Proofs.YtkcgdnnipohehaaGreatDoor

/- The law on free shapes: its last part. -/
namespace Go.Proofs.YtkcgdnnipohehaaGreatDoor
open Go.RowKit
set_option linter.unusedVariables false
attribute [local go_sem ↓] Go.wp_at_zero Go.wp_at_succ

/-- What stands behind the first k statements of a code. -/
def sufF : Nat → Code → Code
  | k + 1, .seq _ b => sufF k b
  | _, c => c
noncomputable def freB (k : Nat) : Code := (Tryz.f4.body.map (sufF k)).getD .skip
/-- The reference's piece of a name, or none. -/
theorem PieceNamed_b (t : ByteArray) (ht : t ∈ noN ∨ ∃ k, k < 12 ∧ t = nmL.getD k ⟨#[]⟩) : ∃ K, K ≤ 12 ∧ (∀ i, i < K → nmL.getD i ⟨#[]⟩ ≠ t) ∧ (K < 12 → nmL.getD K ⟨#[]⟩ = t) ∧ ∀ w, Calls Tryz.prog 48 #[.string t] w (RetPX w (pcL.getD K []) (decide (K < 12))) := by
  rcases ht with ht | ⟨k, hk, rfl⟩
  · exact ⟨12, Nat.le_refl _, fun i hi => nm_no t ht ⟨i, hi⟩, fun h => absurd h (by omega), fun w => PieceNamed_xno t ht w⟩
  · exact ⟨k, by omega, fun i hi => nm_ne ⟨i, by omega⟩ ⟨k, hk⟩ (fun e => by have := congrArg Fin.val e; simp only at this; omega), fun _ => rfl, fun w => by rw [decide_eq_true hk]; exact PieceNamed_x k hk w⟩
theorem pc_name (k : Nat) (h : k < 12) : nameV (pcL.getD k []) = nmL.getD k ⟨#[]⟩ := by
  have h1 := pc_ok
  unfold pcOk at h1
  rw [List.all_eq_true] at h1
  have h2 := h1 k (List.mem_range.2 h)
  simp only [Bool.and_eq_true, beq_iff_eq] at h2
  unfold nameV
  rw [h2.2]
theorem fr_len (m : Int) (k : Nat) : (frV (fixA m) k).length ≤ 1048576 := Nat.le_trans (frV_len _ _) (fixA_len2 m)
theorem fr_few (m : Int) (k : Nat) : ∀ x ∈ frV (fixA m) k, x.length ≤ 1048576 := fun x hx => by
  have h1 := fixA_shape2 m x (by unfold frV at hx; exact (List.mem_filter.1 hx).1)
  have h2 := (shape_len h1).2
  omega
theorem pc_few (k : Nat) : (pcL.getD k []).length ≤ 8 := by
  by_cases h : k < 12
  · exact (shape_len (pc_shape k h)).2
  · rw [List.getD_eq_getElem?_getD, List.getElem?_eq_none (by rw [pc_len]; omega)]
    exact Nat.zero_le _
set_option maxRecDepth 100000 in
set_option maxHeartbeats 6400000 in
theorem freT14 {s1 s2 s4 s5 s6 s7 s8 s9 s10 s11 s12 s13 s14 s15 s16 s17 s18 s19 s20 s21 s22 s23 s24 s25 s26 s27 s28 s29 s30 s31 s32 s33 s34 s35 s36 s37 s38 s39 s40 s41 s42 s43 s44 s45 s46 s47 s48 s49 s50 s51 s52 s53 s54 s55 s56 s57 s58 s59 s60 s61 s62 s63 s64 s65 s66 s67 s68 s69 s70 s71 s72 s73 s74 s75 s76 s77 s78 s79 s80 s81 s82 s83 s84 s85 s86 s87 s88 s89 s90 s91 s92 s93 s94 s95 s96 s97 s98 s99 s100 s101 s102 s103 s104 s105 s106 s107 s108 s109 s110 s111 s112 s113 s114 s115 s116 s117 s118 s119 s120 s121 s122 s123 s124 s125 s126 s127 s128 s129 s130 s131 s132 s133 s134 s135 s136 s137 s138 s139 s140 s141 s142 s143 s144 s145 s146 s147 s148 s149 s150 s151 s152 s153 s154 s155 s156 s157 s158 s159 s160 s161 s162 s163 s164 s165 s166 s167 s168 s169 s170 s171 s172 s173 s174 s175 s176 s177 s178 s179 s180 s181 s182 s183 s184 s185 s186 s187 s188 s189 s190 s191 s192 s193 s194 s195 s196 s197 s198 s199 s200 s201 s202 s203 s204 : Value} (m : Int) (A : Option Addr) (n c : Nat) (bs0 : List UInt8) (w y0 : World) (hr : Rd w A (vB bs0)) (hl : bs0.length = n) (hn : n ≤ 1048576) (hmx : Mx w) (hby : Below w.heap.size w y0) :
    Code.wp Tryz.prog (freB 14) (bodyPost Tryz.prog Tryz.f4 (Ret w (.bool true))) ⟨List.toArray ((.slice A n c) :: s1 :: s2 :: (.int .i64 m) :: s4 :: s5 :: s6 :: s7 :: s8 :: s9 :: s10 :: s11 :: s12 :: s13 :: s14 :: s15 :: s16 :: s17 :: s18 :: s19 :: s20 :: s21 :: s22 :: s23 :: s24 :: s25 :: s26 :: s27 :: s28 :: s29 :: s30 :: s31 :: s32 :: s33 :: s34 :: s35 :: s36 :: s37 :: s38 :: s39 :: s40 :: s41 :: s42 :: s43 :: s44 :: s45 :: s46 :: s47 :: s48 :: s49 :: s50 :: s51 :: s52 :: s53 :: s54 :: s55 :: s56 :: s57 :: s58 :: s59 :: s60 :: s61 :: s62 :: s63 :: s64 :: s65 :: s66 :: s67 :: s68 :: s69 :: s70 :: s71 :: s72 :: s73 :: s74 :: s75 :: s76 :: s77 :: s78 :: s79 :: s80 :: s81 :: s82 :: s83 :: s84 :: s85 :: s86 :: s87 :: s88 :: s89 :: s90 :: s91 :: s92 :: s93 :: s94 :: s95 :: s96 :: s97 :: s98 :: s99 :: s100 :: s101 :: s102 :: s103 :: s104 :: s105 :: s106 :: s107 :: s108 :: s109 :: s110 :: s111 :: s112 :: s113 :: s114 :: s115 :: s116 :: s117 :: s118 :: s119 :: s120 :: s121 :: s122 :: s123 :: s124 :: s125 :: s126 :: s127 :: s128 :: s129 :: s130 :: s131 :: s132 :: s133 :: s134 :: s135 :: s136 :: s137 :: s138 :: s139 :: s140 :: s141 :: s142 :: s143 :: s144 :: s145 :: s146 :: s147 :: s148 :: s149 :: s150 :: s151 :: s152 :: s153 :: s154 :: s155 :: s156 :: s157 :: s158 :: s159 :: s160 :: s161 :: s162 :: s163 :: s164 :: s165 :: s166 :: s167 :: s168 :: s169 :: s170 :: s171 :: s172 :: s173 :: s174 :: s175 :: s176 :: s177 :: s178 :: s179 :: s180 :: s181 :: s182 :: s183 :: s184 :: s185 :: s186 :: s187 :: s188 :: s189 :: s190 :: s191 :: s192 :: s193 :: s194 :: s195 :: s196 :: s197 :: s198 :: s199 :: s200 :: s201 :: s202 :: s203 :: s204 :: []), []⟩ y0 := by
  have HR := Lib.hid hr
  have HL := Lib.hid hl
  have HMX := Lib.hid hmx
  have HBY := Lib.hid hby
  clear hr hl hmx hby
  conv => arg 2; whnf
  go_wp2_with fail
  refine (DrawNameOfPiece_s A n c bs0 y0 (HR.out.below HBY.out) HL.out hn).mono ?_
  rintro e w1 ⟨D1, k1, c1, xa, rfl, hr1, hl1, hk1, hkc1, hb1⟩
  have HA1 := Lib.hid hr1
  have HAL := Lib.hid hl1
  have HB1 := Lib.hid (bel_trans HBY.out hb1)
  clear hr1 hl1 hb1
  go_wp2_with fail
  refine (DrawPieceNamed_s A n c bs0 w1 (HR.out.below HB1.out) HL.out hn).mono ?_
  rintro e w2 ⟨t, rfl, ht, hb2⟩
  obtain ⟨K, hK12, hno, hat, hsp⟩ := PieceNamed_b t ht
  have hnm : K < 12 → nameV (pcL.getD K []) = t := fun h => by rw [pc_name K h]; exact hat h
  have HNM := Lib.hid hnm
  have HSP := Lib.hid hsp
  have HNO := Lib.hid hno
  have HAT := Lib.hid hat
  have hp8 := pc_few K
  have HA2 := Lib.hid (HA1.out.below hb2)
  have HB2 := Lib.hid (bel_trans HB1.out hb2)
  have HM2 := Lib.hid (HMX.out.below HB2.out)
  clear ht hno hat hsp hnm hb2 HA1
  go_wp2_with fail
  refine (PieceNamed_i t K w2 HM2.out hK12 HNO.out HAT.out).mono ?_
  obtain ⟨P, hP⟩ : ∃ P, pcL.getD K [] = P := ⟨_, rfl⟩
  rw [hP] at HNM HSP hp8 ⊢
  rintro e w3 ⟨D3, k3, c3, rfl, ho3, hb3⟩
  have hl3 : P.length = k3 := by have := own_len ho3; rw [vC_length] at this; omega
  have HP3 := Lib.hid (Rd.of_own ho3)
  have HL3 := Lib.hid hl3
  have HA3 := Lib.hid (HA2.out.below hb3)
  have HB3 := Lib.hid (bel_trans HB2.out hb3)
  clear ho3 hl3 hb3 HA2 hP
  go_wp2_with fail
  refine (HSP.out w3).mono ?_
  rintro e w4 ⟨D4, k4, c4, rfl, ho4, hb4⟩
  have hl4 : P.length = k4 := by have := own_len ho4; rw [vC_length] at this; omega
  have HP4 := Lib.hid (Rd.of_own ho4)
  have HL4 := Lib.hid hl4
  have HP34 := Lib.hid (HP3.out.below hb4)
  have HA4 := Lib.hid (HA3.out.below hb4)
  have HB4 := Lib.hid (bel_trans HB3.out hb4)
  clear ho4 hl4 hb4 HA3 HP3 HNO HAT
  obtain ⟨isb, hisb⟩ : ∃ b, decide (K < 12) = b := ⟨_, rfl⟩
  have HIS := Lib.hid hisb
  rw [hisb]
  clear hisb
  have hbb : (isb == isb) = true := by simp
  have hk3 : k3 ≤ 1099511627776 := by have := HL3.out; omega
  have hk4 : k4 ≤ 1099511627776 := by have := HL4.out; omega
  have hk41 : k4 ≤ 1048576 := by have := HL4.out; omega
  have HN1 : Hid (∀ w', Below w4.heap.size w4 w' → Calls Tryz.prog 49 #[.slice D4 k4 c4] w' (Ret w' (.string (nameV P)))) := fun w' hb => NameOfPiece_i D4 k4 c4 P w' (HMX.out.below (bel_trans HB4.out hb)) (HP4.out.below hb) HL4.out hk41
  have HN2 : Hid (∀ w', Below w4.heap.size w4 w' → Calls Tryz.prog 49 #[.slice D1 k1 c1] w' (Ret w' (.string (nameV xa)))) := fun w' hb => NameOfPiece_i D1 k1 c1 xa w' (HMX.out.below (bel_trans HB4.out hb)) (HA4.out.below hb) HAL.out hk1
  have HN3 : Hid (∀ w', Below w4.heap.size w4 w' → Calls Tryz.prog 50 #[.slice D1 k1 c1] w' (Ret w' (.string (nameV xa)))) := fun w' hb => NameOfPiece_s D1 k1 c1 xa w' (HA4.out.below hb) HAL.out hk1
  obtain ⟨ua, hua⟩ : ∃ u, nameV xa = u := ⟨_, rfl⟩
  rw [hua] at HN2 HN3
  obtain ⟨L4, hL4⟩ : ∃ l, frV (fixA m) 4 = l := ⟨_, rfl⟩
  have hl4a := fr_len m 4
  have hl4b := fr_few m 4
  have HO1 : Hid (∀ w', Calls Tryz.prog 51 #[.int .i64 m] w' (RetF w' L4)) := fun w' => hL4 ▸ OneSidedShapes_i m w'
  have HO2 : Hid (∀ w', Calls Tryz.prog 52 #[.int .i64 m] w' (RetFA2 w' L4)) := fun w' => hL4 ▸ OneSidedShapes_s m w'
  rw [hL4] at hl4a hl4b
  have HL4A := Lib.hid hl4a
  have HL4B := Lib.hid hl4b
  obtain ⟨c6, hc6⟩ : ∃ c, cntV m 6 = c := ⟨_, rfl⟩
  obtain ⟨c4v, hc4⟩ : ∃ c, cntV m 4 = c := ⟨_, rfl⟩
  have HG1 : Hid (∀ w', Calls Tryz.prog 35 #[.int .i64 m] w' (Ret w' (.int .i64 c6))) := fun w' => hc6 ▸ CountByGrowth_i m w'
  have HG2 : Hid (∀ w', Calls Tryz.prog 53 #[.int .i64 m] w' (Ret w' (.int .i64 c6))) := fun w' => hc6 ▸ cg_eq m ▸ CountByGrowth_s m w'
  have HG3 : Hid (∀ w', Calls Tryz.prog 36 #[.int .i64 m] w' (Ret w' (.int .i64 c4v))) := fun w' => hc4 ▸ CountByRows_i m w'
  have HG4 : Hid (∀ w', Calls Tryz.prog 54 #[.int .i64 m] w' (Ret w' (.int .i64 c4v))) := fun w' => hc4 ▸ CountByRows_all m w'
  have huu : (ua.toList == ua.toList) = true := by simp
  have htt : (t.toList == t.toList) = true := by simp
  clear hua hL4 hc6 hc4 hl4a hl4b
  have hEQ : Calls Tryz.prog 43 #[.slice D3 k3 c3, .slice D4 k4 c4] w4 (Ret w4 (.bool true)) := by
    have h := EqualShapes_s D3 D4 k3 c3 k4 c4 P P w4 HP34.out HP4.out HL3.out HL4.out hk3 hk4
    rwa [decide_eq_true rfl] at h
  have HEQ := Lib.hid hEQ
  clear hEQ
  cases isb with
  | false =>
    go_wp2_with fail
    refine HEQ.out.mono ?_
    rintro e w5 ⟨rfl, hb5⟩
    have HB5 := Lib.hid hb5
    clear hb5 HN1 HNM HIS
    go_wp2_with fail
    refine (HN2.out _ HB5.out).mono ?_
    rintro e w7 ⟨rfl, hb7⟩
    have HB7 := Lib.hid (bel_trans HB5.out hb7)
    clear hb7
    go_wp2_with fail
    refine (HN3.out _ HB7.out).mono ?_
    rintro e w8 ⟨rfl, hb8⟩
    have HB8 := Lib.hid (bel_trans HB7.out hb8)
    clear hb8
    go_wp2_with fail
    refine (HO1.out w8).mono ?_
    rintro e w9 ⟨B9, q9, cq9, hs9, rfl, ho9, hb9⟩
    have HO9 := Lib.hid ho9.rd
    have HB9 := Lib.hid (bel_trans HB8.out hb9)
    have hq9 : q9 ≤ 1048576 := by have := ho9.flen; have := HL4A.out; omega
    clear hb9 ho9
    go_wp2_with fail
    refine (HO2.out w9).mono ?_
    rintro e w10 ⟨g10, q10, cq10, hs10, rfl, ho10, hb10⟩
    have HO10 := Lib.hid ho10.rd
    have HO910 := Lib.hid (HO9.out.below hb10)
    have HB10 := Lib.hid (bel_trans HB9.out hb10)
    clear hb10 ho10
    go_wp2_with fail
    refine (sameShapes_t _ _ q9 cq9 q10 cq10 hs9 hs10 L4 w10 HO910.out HO10.out hq9 HL4B.out).mono ?_
    rintro e w11 ⟨rfl, hb11⟩
    have HB11 := Lib.hid (bel_trans HB10.out hb11)
    clear hb11
    go_wp2_with fail
    refine (HG1.out w11).mono ?_
    rintro e w12 ⟨rfl, hb12⟩
    have HB12 := Lib.hid (bel_trans HB11.out hb12)
    clear hb12
    go_wp2_with fail
    refine (HG2.out w12).mono ?_
    rintro e w13 ⟨rfl, hb13⟩
    have HB13 := Lib.hid (bel_trans HB12.out hb13)
    clear hb13
    go_wp2_with fail
    refine (HG3.out w13).mono ?_
    rintro e w14 ⟨rfl, hb14⟩
    have HB14 := Lib.hid (bel_trans HB13.out hb14)
    clear hb14
    go_wp2_with fail
    refine (HG4.out w14).mono ?_
    rintro e w15 ⟨rfl, hb15⟩
    have HB15 := Lib.hid (bel_trans HB4.out (bel_trans HB14.out hb15))
    clear hb15
    go_wp2_with fail
    go_ret
    exact ⟨rfl, HB15.out⟩
  | true =>
    have hnm := HNM.out (of_decide_eq_true HIS.out)
    rw [hnm] at HN1
    clear hnm HNM HIS
    go_wp2_with fail
    refine HEQ.out.mono ?_
    rintro e w5 ⟨rfl, hb5⟩
    have HB5 := Lib.hid hb5
    clear hb5
    go_wp2_with fail
    refine (HN1.out _ HB5.out).mono ?_
    rintro e w6 ⟨rfl, hb6⟩
    have HB6 := Lib.hid (bel_trans HB5.out hb6)
    clear hb6
    go_wp2_with fail
    refine (HN2.out _ HB6.out).mono ?_
    rintro e w7 ⟨rfl, hb7⟩
    have HB7 := Lib.hid (bel_trans HB6.out hb7)
    clear hb7
    go_wp2_with fail
    refine (HN3.out _ HB7.out).mono ?_
    rintro e w8 ⟨rfl, hb8⟩
    have HB8 := Lib.hid (bel_trans HB7.out hb8)
    clear hb8
    go_wp2_with fail
    refine (HO1.out w8).mono ?_
    rintro e w9 ⟨B9, q9, cq9, hs9, rfl, ho9, hb9⟩
    have HO9 := Lib.hid ho9.rd
    have HB9 := Lib.hid (bel_trans HB8.out hb9)
    have hq9 : q9 ≤ 1048576 := by have := ho9.flen; have := HL4A.out; omega
    clear hb9 ho9
    go_wp2_with fail
    refine (HO2.out w9).mono ?_
    rintro e w10 ⟨g10, q10, cq10, hs10, rfl, ho10, hb10⟩
    have HO10 := Lib.hid ho10.rd
    have HO910 := Lib.hid (HO9.out.below hb10)
    have HB10 := Lib.hid (bel_trans HB9.out hb10)
    clear hb10 ho10
    go_wp2_with fail
    refine (sameShapes_t _ _ q9 cq9 q10 cq10 hs9 hs10 L4 w10 HO910.out HO10.out hq9 HL4B.out).mono ?_
    rintro e w11 ⟨rfl, hb11⟩
    have HB11 := Lib.hid (bel_trans HB10.out hb11)
    clear hb11
    go_wp2_with fail
    refine (HG1.out w11).mono ?_
    rintro e w12 ⟨rfl, hb12⟩
    have HB12 := Lib.hid (bel_trans HB11.out hb12)
    clear hb12
    go_wp2_with fail
    refine (HG2.out w12).mono ?_
    rintro e w13 ⟨rfl, hb13⟩
    have HB13 := Lib.hid (bel_trans HB12.out hb13)
    clear hb13
    go_wp2_with fail
    refine (HG3.out w13).mono ?_
    rintro e w14 ⟨rfl, hb14⟩
    have HB14 := Lib.hid (bel_trans HB13.out hb14)
    clear hb14
    go_wp2_with fail
    refine (HG4.out w14).mono ?_
    rintro e w15 ⟨rfl, hb15⟩
    have HB15 := Lib.hid (bel_trans HB4.out (bel_trans HB14.out hb15))
    clear hb15
    go_wp2_with fail
    go_ret
    exact ⟨rfl, HB15.out⟩
end Go.Proofs.YtkcgdnnipohehaaGreatDoor

/- The law on free shapes: parents of extensions. -/
namespace Go.Proofs.YtkcgdnnipohehaaGreatDoor
open Go.RowKit
set_option linter.unusedVariables false
attribute [local go_sem ↓] Go.wp_at_zero Go.wp_at_succ

/-- One of the first k is the shape. -/
def anyTo (F : List (List C)) (x : List C) (k : Nat) : Bool := (F.take k).any fun y => decide (y = x)
theorem anyTo_succ (F : List (List C)) (x : List C) (k : Nat) (f : List C) (h : F[k]? = some f) : anyTo F x (k + 1) = (anyTo F x k || decide (f = x)) := by
  obtain ⟨hk, rfl⟩ := List.getElem?_eq_some_iff.1 h
  unfold anyTo
  rw [List.take_succ_eq_append_getElem hk, List.any_append]
  simp
theorem anyTo_all (F : List (List C)) (x : List C) (h : x ∈ F) : anyTo F x F.length = true := by
  unfold anyTo
  rw [List.take_length, List.any_eq_true]
  exact ⟨x, h, by simp⟩
/-- What the law asks of an extension's parents. -/
theorem par_has {xs t : List C} (hc : isConn xs = true) (ht : t ∈ extR xs) : anyTo (parV t) (cornS xs) (parV t).length = true := by
  unfold extR at ht
  split at ht
  · have h := parent hc ht
    rw [cornI_shape (conn_shape hc)] at h
    exact anyTo_all _ _ h
  · simp at ht
theorem parV_few {t : List C} (ht : isShape t = true) : (parV t).length ≤ 8 ∧ ∀ x ∈ parV t, x.length ≤ 1048576 := by
  unfold parV
  rw [if_pos ht]
  have h1 := parTo_len t t.length
  have h2 := (shape_len ht).2
  refine ⟨by omega, fun x hx => ?_⟩
  have h3 := (shape_len ((parTo_fine t t.length).2 x hx)).2
  omega
set_option maxRecDepth 100000 in
set_option maxHeartbeats 6400000 in
theorem freT13 {s1 s2 s4 s5 s6 s7 s8 s11 s12 s13 s14 s15 s16 s17 s18 s19 s20 s21 s22 s23 s24 s25 s26 s27 s28 s29 s30 s31 s32 s33 s34 s35 s36 s37 s38 s39 s40 s41 s42 s43 s44 s45 s46 s47 s48 s49 s50 s51 s52 s53 s54 s55 s56 s57 s58 s59 s60 s61 s62 s63 s64 s65 s66 s67 s68 s69 s70 s71 s72 s73 s74 s75 s76 s77 s78 s79 s80 s81 s82 s83 s84 s85 s86 s87 s88 s89 s90 s91 s92 s93 s94 s95 s96 s97 s98 s99 s100 s101 s102 s103 s104 s105 s106 s107 s108 s109 s110 s111 s112 s113 s114 s115 s116 s117 s118 s119 s120 s121 s122 s123 s124 s125 s126 s127 s128 s129 s130 s131 s132 s133 s134 s135 s136 s137 s138 s139 s140 s141 s142 s143 s144 s145 s146 s147 s148 s149 s150 s151 s152 s153 s154 s155 s156 s157 s158 s159 s160 s161 s162 s163 s164 s165 s166 s167 s168 s169 s170 s171 s172 s173 s174 s175 s176 s177 s178 s179 s180 s181 s182 s183 s184 s185 s186 s187 s188 s189 s190 s191 s192 s193 s194 s195 s196 s197 s198 s199 s200 s201 s202 s203 s204 : Value} (m : Int) (A : Option Addr) (n c : Nat) (bs0 : List UInt8) (w y0 : World) (hr : Rd w A (vB bs0)) (hl : bs0.length = n) (hn : n ≤ 1048576) (hmx : Mx w) (hby : Below w.heap.size w y0)
    {D E : Option Addr} {k cD q cE : Nat} {xs : List C} {hsE : List H} (hD : Rd y0 D (vC xs)) (hk : xs.length = k) (hk8 : k ≤ 1048576) (hkc : k ≤ cD) (hE : RdF y0 E q hsE (extR xs)) :
    Code.wp Tryz.prog (freB 13) (bodyPost Tryz.prog Tryz.f4 (Ret w (.bool true))) ⟨List.toArray ((.slice A n c) :: s1 :: s2 :: (.int .i64 m) :: s4 :: s5 :: s6 :: s7 :: s8 :: (.slice D k cD) :: (.slice E q cE) :: s11 :: s12 :: s13 :: s14 :: s15 :: s16 :: s17 :: s18 :: s19 :: s20 :: s21 :: s22 :: s23 :: s24 :: s25 :: s26 :: s27 :: s28 :: s29 :: s30 :: s31 :: s32 :: s33 :: s34 :: s35 :: s36 :: s37 :: s38 :: s39 :: s40 :: s41 :: s42 :: s43 :: s44 :: s45 :: s46 :: s47 :: s48 :: s49 :: s50 :: s51 :: s52 :: s53 :: s54 :: s55 :: s56 :: s57 :: s58 :: s59 :: s60 :: s61 :: s62 :: s63 :: s64 :: s65 :: s66 :: s67 :: s68 :: s69 :: s70 :: s71 :: s72 :: s73 :: s74 :: s75 :: s76 :: s77 :: s78 :: s79 :: s80 :: s81 :: s82 :: s83 :: s84 :: s85 :: s86 :: s87 :: s88 :: s89 :: s90 :: s91 :: s92 :: s93 :: s94 :: s95 :: s96 :: s97 :: s98 :: s99 :: s100 :: s101 :: s102 :: s103 :: s104 :: s105 :: s106 :: s107 :: s108 :: s109 :: s110 :: s111 :: s112 :: s113 :: s114 :: s115 :: s116 :: s117 :: s118 :: s119 :: s120 :: s121 :: s122 :: s123 :: s124 :: s125 :: s126 :: s127 :: s128 :: s129 :: s130 :: s131 :: s132 :: s133 :: s134 :: s135 :: s136 :: s137 :: s138 :: s139 :: s140 :: s141 :: s142 :: s143 :: s144 :: s145 :: s146 :: s147 :: s148 :: s149 :: s150 :: s151 :: s152 :: s153 :: s154 :: s155 :: s156 :: s157 :: s158 :: s159 :: s160 :: s161 :: s162 :: s163 :: s164 :: s165 :: s166 :: s167 :: s168 :: s169 :: s170 :: s171 :: s172 :: s173 :: s174 :: s175 :: s176 :: s177 :: s178 :: s179 :: s180 :: s181 :: s182 :: s183 :: s184 :: s185 :: s186 :: s187 :: s188 :: s189 :: s190 :: s191 :: s192 :: s193 :: s194 :: s195 :: s196 :: s197 :: s198 :: s199 :: s200 :: s201 :: s202 :: s203 :: s204 :: []), []⟩ y0 := by
  have HR := Lib.hid hr
  have HL := Lib.hid hl
  have HMX := Lib.hid hmx
  have HBY := Lib.hid hby
  have HD := Lib.hid hD
  have HK := Lib.hid hk
  have HE := Lib.hid hE
  have hq32 : q ≤ 32 := by have h1 := hE.flen; have h2 := (extR_len xs).1; omega
  have HXS := Lib.hid (extR_len xs).2
  have HPH : Hid (∀ t, isConn xs = true → t ∈ extR xs → anyTo (parV t) (cornS xs) (parV t).length = true) := fun t h1 h2 => par_has h1 h2
  have HCS : Hid (∀ w', isConn xs = true → Rd w' D (vC xs) → Calls Tryz.prog 44 #[.slice D k cD] w' (RetS w' 87 2 (vC (cornS xs)))) := fun w' h1 h2 => CornerShape_x D k cD xs w' h2 HK.out (conn_shape h1)
  have HCL : Hid (isConn xs = true → (cornS xs).length ≤ 1099511627776) := fun h1 => by
    have h2 := (shape_len (conn_shape h1)).2
    rw [show (cornS xs).length = xs.length from mv_len _ _ _]
    omega
  have HIC : Hid (∀ w', Rd w' D (vC xs) → Calls Tryz.prog 42 #[.slice D k cD] w' (Ret w' (.bool (isConn xs)))) := fun w' h => IsConnectedShape_s D k cD xs w' h HK.out (by omega)
  obtain ⟨cs, hcs⟩ : ∃ cs, cornS xs = cs := ⟨_, rfl⟩
  obtain ⟨eF, heF⟩ : ∃ F, extR xs = F := ⟨_, rfl⟩
  obtain ⟨ib, hib⟩ : ∃ b, isConn xs = b := ⟨_, rfl⟩
  rw [hcs, heF, hib] at HPH
  rw [hcs, hib] at HCS HCL
  rw [heF] at HE HXS
  rw [hib] at HIC
  clear hr hl hmx hby hD hk hE hcs heF hib
  obtain ⟨yy, hyy⟩ : ∃ y, freB 14 = y := ⟨_, rfl⟩
  have hyyq : ∀ (s1 s2 s4 s5 s6 s7 s8 s9 s10 s11 s12 s13 s14 s15 s16 s17 s18 s19 s20 s21 s22 s23 s24 s25 s26 s27 s28 s29 s30 s31 s32 s33 s34 s35 s36 s37 s38 s39 s40 s41 s42 s43 s44 s45 s46 s47 s48 s49 s50 s51 s52 s53 s54 s55 s56 s57 s58 s59 s60 s61 s62 s63 s64 s65 s66 s67 s68 s69 s70 s71 s72 s73 s74 s75 s76 s77 s78 s79 s80 s81 s82 s83 s84 s85 s86 s87 s88 s89 s90 s91 s92 s93 s94 s95 s96 s97 s98 s99 s100 s101 s102 s103 s104 s105 s106 s107 s108 s109 s110 s111 s112 s113 s114 s115 s116 s117 s118 s119 s120 s121 s122 s123 s124 s125 s126 s127 s128 s129 s130 s131 s132 s133 s134 s135 s136 s137 s138 s139 s140 s141 s142 s143 s144 s145 s146 s147 s148 s149 s150 s151 s152 s153 s154 s155 s156 s157 s158 s159 s160 s161 s162 s163 s164 s165 s166 s167 s168 s169 s170 s171 s172 s173 s174 s175 s176 s177 s178 s179 s180 s181 s182 s183 s184 s185 s186 s187 s188 s189 s190 s191 s192 s193 s194 s195 s196 s197 s198 s199 s200 s201 s202 s203 s204 : Value) (w' : World), Below w.heap.size w w' → Code.wp Tryz.prog yy (bodyPost Tryz.prog Tryz.f4 (Ret w (.bool true))) ⟨List.toArray ((.slice A n c) :: s1 :: s2 :: (.int .i64 m) :: s4 :: s5 :: s6 :: s7 :: s8 :: s9 :: s10 :: s11 :: s12 :: s13 :: s14 :: s15 :: s16 :: s17 :: s18 :: s19 :: s20 :: s21 :: s22 :: s23 :: s24 :: s25 :: s26 :: s27 :: s28 :: s29 :: s30 :: s31 :: s32 :: s33 :: s34 :: s35 :: s36 :: s37 :: s38 :: s39 :: s40 :: s41 :: s42 :: s43 :: s44 :: s45 :: s46 :: s47 :: s48 :: s49 :: s50 :: s51 :: s52 :: s53 :: s54 :: s55 :: s56 :: s57 :: s58 :: s59 :: s60 :: s61 :: s62 :: s63 :: s64 :: s65 :: s66 :: s67 :: s68 :: s69 :: s70 :: s71 :: s72 :: s73 :: s74 :: s75 :: s76 :: s77 :: s78 :: s79 :: s80 :: s81 :: s82 :: s83 :: s84 :: s85 :: s86 :: s87 :: s88 :: s89 :: s90 :: s91 :: s92 :: s93 :: s94 :: s95 :: s96 :: s97 :: s98 :: s99 :: s100 :: s101 :: s102 :: s103 :: s104 :: s105 :: s106 :: s107 :: s108 :: s109 :: s110 :: s111 :: s112 :: s113 :: s114 :: s115 :: s116 :: s117 :: s118 :: s119 :: s120 :: s121 :: s122 :: s123 :: s124 :: s125 :: s126 :: s127 :: s128 :: s129 :: s130 :: s131 :: s132 :: s133 :: s134 :: s135 :: s136 :: s137 :: s138 :: s139 :: s140 :: s141 :: s142 :: s143 :: s144 :: s145 :: s146 :: s147 :: s148 :: s149 :: s150 :: s151 :: s152 :: s153 :: s154 :: s155 :: s156 :: s157 :: s158 :: s159 :: s160 :: s161 :: s162 :: s163 :: s164 :: s165 :: s166 :: s167 :: s168 :: s169 :: s170 :: s171 :: s172 :: s173 :: s174 :: s175 :: s176 :: s177 :: s178 :: s179 :: s180 :: s181 :: s182 :: s183 :: s184 :: s185 :: s186 :: s187 :: s188 :: s189 :: s190 :: s191 :: s192 :: s193 :: s194 :: s195 :: s196 :: s197 :: s198 :: s199 :: s200 :: s201 :: s202 :: s203 :: s204 :: []), []⟩ w' := by
    intro _ _ _ _ _ _ _ _ _ _ _ _ _ _ _ _ _ _ _ _ _ _ _ _ _ _ _ _ _ _ _ _ _ _ _ _ _ _ _ _ _ _ _ _ _ _ _ _ _ _ _ _ _ _ _ _ _ _ _ _ _ _ _ _ _ _ _ _ _ _ _ _ _ _ _ _ _ _ _ _ _ _ _ _ _ _ _ _ _ _ _ _ _ _ _ _ _ _ _ _ _ _ _ _ _ _ _ _ _ _ _ _ _ _ _ _ _ _ _ _ _ _ _ _ _ _ _ _ _ _ _ _ _ _ _ _ _ _ _ _ _ _ _ _ _ _ _ _ _ _ _ _ _ _ _ _ _ _ _ _ _ _ _ _ _ _ _ _ _ _ _ _ _ _ _ _ _ _ _ _ _ _ _ _ _ _ _ _ _ _ _ _ _ _ _ _ _ _ _ _ _ _ _ w' hb'
    rw [← hyy]
    exact freT14 m A n c bs0 w w' HR.out HL.out hn HMX.out hb'
  have HYY := Lib.hid @hyyq
  clear hyyq
  conv at hyy => lhs; whnf
  conv => arg 2; whnf
  rw [hyy]
  clear hyy
  go_wp2_with fail
  go_loopw [11] (fun e11 wr => ∃ i : Nat, i ≤ q ∧ e11 = .int .i64 i ∧ Below y0.heap.size y0 wr) (fun e11 _ => q - (intOf e11).toNat)
  case atStart => exact ⟨0, Nat.zero_le _, rfl, Below.refl _ _⟩
  case round =>
    obtain ⟨i, hi, rfl, hb⟩ := hrel
    have HB := Lib.hid hb
    clear hb
    by_cases hlt : i < q
    · have hi0 : (0 : Int) ≤ (i : Int) := by omega
      have hi1 : (i : Int) < (q : Int) := by omega
      obtain ⟨x, t, g, off, hxx, hft, hA, hg, d1, hcr⟩ := (HE.out.below HB.out).at_ hlt
      have htm := List.mem_of_getElem? hft
      have hts := HXS.out t htm
      have hpf := parV_few hts
      obtain ⟨E1, m1, k1⟩ := x
      dsimp only at d1
      have h1 := hcr.1
      have h2 := hcr.2.2.2
      dsimp only at h1 h2
      have hm8 : m1 ≤ 8 := by have := (shape_len hts).2; omega
      have HCR := Lib.hid hcr
      have HPA : Hid (∀ w', Below wr.heap.size wr w' → Calls Tryz.prog 40 #[.slice E1 m1 k1] w' (RetF w' (parV t))) := fun w' hb => ParentsOf_i E1 m1 k1 t w' (HCR.out.below hb).2.1 HCR.out.1 (by omega) h2
      have HPT : Hid (ib = true → anyTo (parV t) cs (parV t).length = true) := fun h => HPH.out t h htm
      obtain ⟨pF, hpF⟩ : ∃ F, parV t = F := ⟨_, rfl⟩
      rw [hpF] at HPA HPT hpf
      have HPF := Lib.hid hpf
      subst hA
      clear hxx hft htm hts hcr h1 hpF hpf
      go_wp2_with fail
      refine (HIC.out _ (HD.out.below HB.out)).mono ?_
      rintro e w2 ⟨rfl, hb2⟩
      have HB2 := Lib.hid hb2
      have d2 : w2.cell? ⟨g, off + i, none⟩ = some (.slice E1 m1 k1) := keep_below hb2 d1
      clear hb2 d1
      cases ib with
      | false =>
        go_wp2_with fail
        exact HYY.out _ _ _ _ _ _ _ _ _ _ _ _ _ _ _ _ _ _ _ _ _ _ _ _ _ _ _ _ _ _ _ _ _ _ _ _ _ _ _ _ _ _ _ _ _ _ _ _ _ _ _ _ _ _ _ _ _ _ _ _ _ _ _ _ _ _ _ _ _ _ _ _ _ _ _ _ _ _ _ _ _ _ _ _ _ _ _ _ _ _ _ _ _ _ _ _ _ _ _ _ _ _ _ _ _ _ _ _ _ _ _ _ _ _ _ _ _ _ _ _ _ _ _ _ _ _ _ _ _ _ _ _ _ _ _ _ _ _ _ _ _ _ _ _ _ _ _ _ _ _ _ _ _ _ _ _ _ _ _ _ _ _ _ _ _ _ _ _ _ _ _ _ _ _ _ _ _ _ _ _ _ _ _ _ _ _ _ _ _ _ _ _ _ _ _ _ _ _ _ _ _ _ _ w2 (bel_trans HBY.out (bel_trans HB.out HB2.out))
      | true =>
        have HPT1 := Lib.hid (HPT.out rfl)
        have hcl := HCL.out rfl
        have HCS1 : Hid (∀ w', Rd w' D (vC xs) → Calls Tryz.prog 44 #[.slice D k cD] w' (RetS w' 87 2 (vC cs))) := fun w' h => HCS.out w' rfl h
        clear HPT
        go_wp2_with fail
        refine (HPA.out _ HB2.out).mono ?_
        rintro e w3 ⟨B, p, cB, hsB, rfl, hoB, hb3⟩
        have hpl : pF.length = p := hoB.flen
        have hp8 : p ≤ 8 := by have := HPF.out.1; omega
        have HO3 := Lib.hid hoB.rd
        have HPL := Lib.hid hpl
        have HB3 := Lib.hid (bel_trans HB.out (bel_trans HB2.out hb3))
        clear hoB hb3 hpl d2
        go_wp2_with fail
        go_loopw [14, 12] (fun e14 e12 wq => ∃ j : Nat, j ≤ p ∧ e14 = .int .i64 j ∧ e12 = .bool (anyTo pF cs j) ∧ Below w3.heap.size w3 wq) (fun e14 _ _ => p - (intOf e14).toNat)
        case atStart => exact ⟨0, Nat.zero_le _, rfl, by simp [anyTo], Below.refl _ _⟩
        case round =>
          obtain ⟨j, hj, rfl, rfl, hb⟩ := hrel
          have HBQ := Lib.hid hb
          clear hb
          by_cases hltj : j < p
          · have hj0 : (0 : Int) ≤ (j : Int) := by omega
            have hj1 : (j : Int) < (p : Int) := by omega
            obtain ⟨x, f, g2, off2, hxx, hf, hA, hg2, d3, hcr⟩ := (HO3.out.below HBQ.out).at_ hltj
            have hfl := HPF.out.2 f (List.mem_of_getElem? hf)
            have hst := anyTo_succ pF cs j f hf
            obtain ⟨E2, m2, k2⟩ := x
            dsimp only at d3
            have h1 := hcr.1
            dsimp only at h1
            have hm2 : m2 ≤ 1099511627776 := by omega
            have HC2 := Lib.hid hcr
            have HDQ := Lib.hid ((HD.out.below HB3.out).below HBQ.out)
            subst hA
            clear hxx hf hcr h1 hfl
            cases hab : anyTo pF cs j with
            | true =>
              rw [hab] at hst
              have hst2 : anyTo pF cs (j + 1) = true := by rw [hst]; rfl
              have HST := Lib.hid hst2
              clear hst hst2 hab
              go_wp2_with fail
              (refine wp_region_below (by kernel_rfl) (by kernel_rfl) ?_; (repeat (first | go_big_quiet_skip | (refine quietV (v := ?_) (by rfl) rfl (fun w' hbw => ?_) ?_; rotate_left; ((try dsimp only at hbw); have hbc := (bcell hbw).1; have hbf := (bcell hbw).2; go_simp; first | done | with_reducible rfl | fail); simp only [List.setIfInBounds_toArray, List.set_cons_zero, List.set_cons_succ]))); refine wpQuiet_nil ?_; intro wq hbq)
              go_wp2_with fail
              exact ⟨⟨j + 1, by omega, by go_num, by rw [HST.out], bel_trans HBQ.out hbq⟩, by simp [intOf]; omega⟩
            | false =>
              rw [hab] at hst
              have hst2 : anyTo pF cs (j + 1) = decide (f = cs) := by rw [hst]; rfl
              have HST := Lib.hid hst2
              clear hst hst2 hab
              go_wp2_with fail
              go_region_with (first | (go_at_call 44; refine (HCS1.out _ (HDQ.out.below (bel_drew (Below.refl _ _)))).mono ?_; rintro e w4 ⟨D4, k4, c4, rfl, hO4, hb4⟩; have hl4 : cs.length = k4 := (by have h := own_len hO4; rw [vC_length] at h; omega); have HL4 := Lib.hid hl4; have hk4 : k4 ≤ 1099511627776 := (by have h := HL4.out; omega); have HO4 := Lib.hid (Rd.of_own hO4); have HB4 := Lib.hid (bel_trans (bel_drew (Below.refl wr.heap.size wr)) hb4); have d4 := keep_below hb4 d3; clear hO4 hl4) | (go_at_call 43; refine (EqualShapes_s E2 D4 m2 k2 k4 c4 f cs _ (HC2.out.below HB4.out).2.1 HO4.out HC2.out.1 HL4.out hm2 hk4).mono ?_; rintro e w5 ⟨rfl, hb5⟩; have HB5 := Lib.hid (bel_trans HB4.out hb5)))
              all_goals go_wp2_with fail
              all_goals exact ⟨⟨j + 1, by omega, by go_num, by rw [HST.out], bel_trans HBQ.out HB5.out⟩, by simp [intOf]; omega⟩
          · obtain rfl : j = p := by omega
            have hj1 : ¬ (j : Int) < (j : Int) := by omega
            have hat : anyTo pF cs j = true := by have h := HPT1.out; rw [HPL.out] at h; exact h
            rw [hat]
            clear hat
            go_wp2_with fail
            exact ⟨⟨i + 1, by omega, by go_num, bel_trans HB3.out HBQ.out⟩, by simp [intOf]; omega⟩
    · obtain rfl : i = q := by omega
      have hi1 : ¬ (i : Int) < (i : Int) := by omega
      go_wp2_with fail
      exact HYY.out _ _ _ _ _ _ _ _ _ _ _ _ _ _ _ _ _ _ _ _ _ _ _ _ _ _ _ _ _ _ _ _ _ _ _ _ _ _ _ _ _ _ _ _ _ _ _ _ _ _ _ _ _ _ _ _ _ _ _ _ _ _ _ _ _ _ _ _ _ _ _ _ _ _ _ _ _ _ _ _ _ _ _ _ _ _ _ _ _ _ _ _ _ _ _ _ _ _ _ _ _ _ _ _ _ _ _ _ _ _ _ _ _ _ _ _ _ _ _ _ _ _ _ _ _ _ _ _ _ _ _ _ _ _ _ _ _ _ _ _ _ _ _ _ _ _ _ _ _ _ _ _ _ _ _ _ _ _ _ _ _ _ _ _ _ _ _ _ _ _ _ _ _ _ _ _ _ _ _ _ _ _ _ _ _ _ _ _ _ _ _ _ _ _ _ _ _ _ _ _ _ _ _ wr (bel_trans HBY.out HB.out)
end Go.Proofs.YtkcgdnnipohehaaGreatDoor

/- The law on free shapes: extensions, parents. -/
namespace Go.Proofs.YtkcgdnnipohehaaGreatDoor
open Go.RowKit
set_option linter.unusedVariables false
attribute [local go_sem ↓] Go.wp_at_zero Go.wp_at_succ

set_option maxRecDepth 100000 in
set_option maxHeartbeats 6400000 in
theorem freT10 {s1 s2 s4 s5 s6 s7 s8 s9 s10 s11 s12 s13 s14 s15 s16 s17 s18 s19 s20 s21 s22 s23 s24 s25 s26 s27 s28 s29 s30 s31 s32 s33 s34 s35 s36 s37 s38 s39 s40 s41 s42 s43 s44 s45 s46 s47 s48 s49 s50 s51 s52 s53 s54 s55 s56 s57 s58 s59 s60 s61 s62 s63 s64 s65 s66 s67 s68 s69 s70 s71 s72 s73 s74 s75 s76 s77 s78 s79 s80 s81 s82 s83 s84 s85 s86 s87 s88 s89 s90 s91 s92 s93 s94 s95 s96 s97 s98 s99 s100 s101 s102 s103 s104 s105 s106 s107 s108 s109 s110 s111 s112 s113 s114 s115 s116 s117 s118 s119 s120 s121 s122 s123 s124 s125 s126 s127 s128 s129 s130 s131 s132 s133 s134 s135 s136 s137 s138 s139 s140 s141 s142 s143 s144 s145 s146 s147 s148 s149 s150 s151 s152 s153 s154 s155 s156 s157 s158 s159 s160 s161 s162 s163 s164 s165 s166 s167 s168 s169 s170 s171 s172 s173 s174 s175 s176 s177 s178 s179 s180 s181 s182 s183 s184 s185 s186 s187 s188 s189 s190 s191 s192 s193 s194 s195 s196 s197 s198 s199 s200 s201 s202 s203 s204 : Value} (m : Int) (A : Option Addr) (n c : Nat) (bs0 : List UInt8) (w y0 : World) (hr : Rd w A (vB bs0)) (hl : bs0.length = n) (hn : n ≤ 1048576) (hmx : Mx w) (hby : Below w.heap.size w y0) :
    Code.wp Tryz.prog (freB 10) (bodyPost Tryz.prog Tryz.f4 (Ret w (.bool true))) ⟨List.toArray ((.slice A n c) :: s1 :: s2 :: (.int .i64 m) :: s4 :: s5 :: s6 :: s7 :: s8 :: s9 :: s10 :: s11 :: s12 :: s13 :: s14 :: s15 :: s16 :: s17 :: s18 :: s19 :: s20 :: s21 :: s22 :: s23 :: s24 :: s25 :: s26 :: s27 :: s28 :: s29 :: s30 :: s31 :: s32 :: s33 :: s34 :: s35 :: s36 :: s37 :: s38 :: s39 :: s40 :: s41 :: s42 :: s43 :: s44 :: s45 :: s46 :: s47 :: s48 :: s49 :: s50 :: s51 :: s52 :: s53 :: s54 :: s55 :: s56 :: s57 :: s58 :: s59 :: s60 :: s61 :: s62 :: s63 :: s64 :: s65 :: s66 :: s67 :: s68 :: s69 :: s70 :: s71 :: s72 :: s73 :: s74 :: s75 :: s76 :: s77 :: s78 :: s79 :: s80 :: s81 :: s82 :: s83 :: s84 :: s85 :: s86 :: s87 :: s88 :: s89 :: s90 :: s91 :: s92 :: s93 :: s94 :: s95 :: s96 :: s97 :: s98 :: s99 :: s100 :: s101 :: s102 :: s103 :: s104 :: s105 :: s106 :: s107 :: s108 :: s109 :: s110 :: s111 :: s112 :: s113 :: s114 :: s115 :: s116 :: s117 :: s118 :: s119 :: s120 :: s121 :: s122 :: s123 :: s124 :: s125 :: s126 :: s127 :: s128 :: s129 :: s130 :: s131 :: s132 :: s133 :: s134 :: s135 :: s136 :: s137 :: s138 :: s139 :: s140 :: s141 :: s142 :: s143 :: s144 :: s145 :: s146 :: s147 :: s148 :: s149 :: s150 :: s151 :: s152 :: s153 :: s154 :: s155 :: s156 :: s157 :: s158 :: s159 :: s160 :: s161 :: s162 :: s163 :: s164 :: s165 :: s166 :: s167 :: s168 :: s169 :: s170 :: s171 :: s172 :: s173 :: s174 :: s175 :: s176 :: s177 :: s178 :: s179 :: s180 :: s181 :: s182 :: s183 :: s184 :: s185 :: s186 :: s187 :: s188 :: s189 :: s190 :: s191 :: s192 :: s193 :: s194 :: s195 :: s196 :: s197 :: s198 :: s199 :: s200 :: s201 :: s202 :: s203 :: s204 :: []), []⟩ y0 := by
  have HR := Lib.hid hr
  have HL := Lib.hid hl
  have HMX := Lib.hid hmx
  have HBY := Lib.hid hby
  clear hr hl hmx hby
  obtain ⟨yy, hyy⟩ : ∃ y, freB 13 = y := ⟨_, rfl⟩
  have hyyq : ∀ (s1 s2 s4 s5 s6 s7 s8 s11 s12 s13 s14 s15 s16 s17 s18 s19 s20 s21 s22 s23 s24 s25 s26 s27 s28 s29 s30 s31 s32 s33 s34 s35 s36 s37 s38 s39 s40 s41 s42 s43 s44 s45 s46 s47 s48 s49 s50 s51 s52 s53 s54 s55 s56 s57 s58 s59 s60 s61 s62 s63 s64 s65 s66 s67 s68 s69 s70 s71 s72 s73 s74 s75 s76 s77 s78 s79 s80 s81 s82 s83 s84 s85 s86 s87 s88 s89 s90 s91 s92 s93 s94 s95 s96 s97 s98 s99 s100 s101 s102 s103 s104 s105 s106 s107 s108 s109 s110 s111 s112 s113 s114 s115 s116 s117 s118 s119 s120 s121 s122 s123 s124 s125 s126 s127 s128 s129 s130 s131 s132 s133 s134 s135 s136 s137 s138 s139 s140 s141 s142 s143 s144 s145 s146 s147 s148 s149 s150 s151 s152 s153 s154 s155 s156 s157 s158 s159 s160 s161 s162 s163 s164 s165 s166 s167 s168 s169 s170 s171 s172 s173 s174 s175 s176 s177 s178 s179 s180 s181 s182 s183 s184 s185 s186 s187 s188 s189 s190 s191 s192 s193 s194 s195 s196 s197 s198 s199 s200 s201 s202 s203 s204 : Value) (D : Option Addr) (E : Option Addr) (k : Nat) (cD : Nat) (q : Nat) (cE : Nat) (xs : List C) (hsE : List H) (w' : World), Below w.heap.size w w' → Rd w' D (vC xs) → xs.length = k → k ≤ 1048576 → k ≤ cD → RdF w' E q hsE (extR xs) → Code.wp Tryz.prog yy (bodyPost Tryz.prog Tryz.f4 (Ret w (.bool true))) ⟨List.toArray ((.slice A n c) :: s1 :: s2 :: (.int .i64 m) :: s4 :: s5 :: s6 :: s7 :: s8 :: (.slice D k cD) :: (.slice E q cE) :: s11 :: s12 :: s13 :: s14 :: s15 :: s16 :: s17 :: s18 :: s19 :: s20 :: s21 :: s22 :: s23 :: s24 :: s25 :: s26 :: s27 :: s28 :: s29 :: s30 :: s31 :: s32 :: s33 :: s34 :: s35 :: s36 :: s37 :: s38 :: s39 :: s40 :: s41 :: s42 :: s43 :: s44 :: s45 :: s46 :: s47 :: s48 :: s49 :: s50 :: s51 :: s52 :: s53 :: s54 :: s55 :: s56 :: s57 :: s58 :: s59 :: s60 :: s61 :: s62 :: s63 :: s64 :: s65 :: s66 :: s67 :: s68 :: s69 :: s70 :: s71 :: s72 :: s73 :: s74 :: s75 :: s76 :: s77 :: s78 :: s79 :: s80 :: s81 :: s82 :: s83 :: s84 :: s85 :: s86 :: s87 :: s88 :: s89 :: s90 :: s91 :: s92 :: s93 :: s94 :: s95 :: s96 :: s97 :: s98 :: s99 :: s100 :: s101 :: s102 :: s103 :: s104 :: s105 :: s106 :: s107 :: s108 :: s109 :: s110 :: s111 :: s112 :: s113 :: s114 :: s115 :: s116 :: s117 :: s118 :: s119 :: s120 :: s121 :: s122 :: s123 :: s124 :: s125 :: s126 :: s127 :: s128 :: s129 :: s130 :: s131 :: s132 :: s133 :: s134 :: s135 :: s136 :: s137 :: s138 :: s139 :: s140 :: s141 :: s142 :: s143 :: s144 :: s145 :: s146 :: s147 :: s148 :: s149 :: s150 :: s151 :: s152 :: s153 :: s154 :: s155 :: s156 :: s157 :: s158 :: s159 :: s160 :: s161 :: s162 :: s163 :: s164 :: s165 :: s166 :: s167 :: s168 :: s169 :: s170 :: s171 :: s172 :: s173 :: s174 :: s175 :: s176 :: s177 :: s178 :: s179 :: s180 :: s181 :: s182 :: s183 :: s184 :: s185 :: s186 :: s187 :: s188 :: s189 :: s190 :: s191 :: s192 :: s193 :: s194 :: s195 :: s196 :: s197 :: s198 :: s199 :: s200 :: s201 :: s202 :: s203 :: s204 :: []), []⟩ w' := by
    intro _ _ _ _ _ _ _ _ _ _ _ _ _ _ _ _ _ _ _ _ _ _ _ _ _ _ _ _ _ _ _ _ _ _ _ _ _ _ _ _ _ _ _ _ _ _ _ _ _ _ _ _ _ _ _ _ _ _ _ _ _ _ _ _ _ _ _ _ _ _ _ _ _ _ _ _ _ _ _ _ _ _ _ _ _ _ _ _ _ _ _ _ _ _ _ _ _ _ _ _ _ _ _ _ _ _ _ _ _ _ _ _ _ _ _ _ _ _ _ _ _ _ _ _ _ _ _ _ _ _ _ _ _ _ _ _ _ _ _ _ _ _ _ _ _ _ _ _ _ _ _ _ _ _ _ _ _ _ _ _ _ _ _ _ _ _ _ _ _ _ _ _ _ _ _ _ _ _ _ _ _ _ _ _ _ _ _ _ _ _ _ _ _ _ _ _ _ _ _ _ _ D E k cD q cE xs hsE w' hb' h1 h2 h3 h4 h5
    rw [← hyy]
    exact freT13 m A n c bs0 w w' HR.out HL.out hn HMX.out hb' h1 h2 h3 h4 h5
  have HYY := Lib.hid @hyyq
  clear hyyq
  conv at hyy => lhs; whnf
  conv => arg 2; whnf
  rw [hyy]
  clear hyy
  go_wp2_with fail
  refine (DrawExtensionsOf_s A n c bs0 y0 (HR.out.below HBY.out) HL.out hn).mono ?_
  rintro e w1 ⟨D, k, cD, xs, rfl, hr1, hl1, hk1, hkc1, hb1⟩
  have HD := Lib.hid hr1
  have HK := Lib.hid hl1
  have HB1 := Lib.hid (bel_trans HBY.out hb1)
  clear hr1 hl1 hb1
  go_wp2_with fail
  refine (ExtensionsOf_i D k cD xs w1 HD.out HK.out hk1).mono ?_
  rintro e w2 ⟨E, q, cE, hsE, rfl, hoE, hb2⟩
  have HE := Lib.hid hoE.rd
  have hq32 : q ≤ 1048576 := by have h1 := hoE.flen; have h2 := (extR_len xs).1; omega
  have HD2 := Lib.hid (HD.out.below hb2)
  have HB2 := Lib.hid (bel_trans HB1.out hb2)
  have HEF : Hid (∀ x ∈ extR xs, x.length ≤ 1048576) := fun x hx => by have := (shape_len ((extR_len xs).2 x hx)).2; omega
  have HPF : Hid (∀ x ∈ parV xs, x.length ≤ 1048576) := fun x hx => by
    by_cases hs : isShape xs = true
    · exact (parV_few hs).2 x hx
    · unfold parV at hx
      rw [if_neg hs] at hx
      simp at hx
  have hpl : (parV xs).length ≤ 8 := by
    by_cases hs : isShape xs = true
    · exact (parV_few hs).1
    · unfold parV
      rw [if_neg hs]
      exact Nat.zero_le _
  have HPL := Lib.hid hpl
  clear hoE hb2 hpl
  go_wp2_with fail
  refine (ExtensionsOf_s D k cD xs w2 HD2.out HK.out hk1).mono ?_
  rintro e w3 ⟨g3, q3, c3, hs3, rfl, ho3, hb3⟩
  have HO3 := Lib.hid ho3.rd
  have HE3 := Lib.hid (HE.out.below hb3)
  have HD3 := Lib.hid (HD2.out.below hb3)
  have HB3 := Lib.hid (bel_trans HB2.out hb3)
  clear ho3 hb3
  go_wp2_with fail
  refine (sameShapes_t _ _ q cE q3 c3 hsE hs3 _ w3 HE3.out HO3.out hq32 HEF.out).mono ?_
  rintro e w4 ⟨rfl, hb4⟩
  have HE4 := Lib.hid (HE3.out.below hb4)
  have HD4 := Lib.hid (HD3.out.below hb4)
  have HB4 := Lib.hid (bel_trans HB3.out hb4)
  clear hb4 HO3
  go_wp2_with fail
  refine (ParentsOf_i D k cD xs w4 HD4.out HK.out hk1 hkc1).mono ?_
  rintro e w5 ⟨B5, q5, c5, hs5, rfl, ho5, hb5⟩
  have HO5 := Lib.hid ho5.rd
  have hq5 : q5 ≤ 1048576 := by have h1 := ho5.flen; have h2 := HPL.out; omega
  have HE5 := Lib.hid (HE4.out.below hb5)
  have HD5 := Lib.hid (HD4.out.below hb5)
  have HB5 := Lib.hid (bel_trans HB4.out hb5)
  clear ho5 hb5
  go_wp2_with fail
  refine (ParentsOf_s D k cD xs w5 HD5.out HK.out hk1 hkc1).mono ?_
  rintro e w6 ⟨g6, q6, c6, hs6, rfl, ho6, hb6⟩
  have HO6 := Lib.hid ho6.rd
  have HO56 := Lib.hid (HO5.out.below hb6)
  have HE6 := Lib.hid (HE5.out.below hb6)
  have HD6 := Lib.hid (HD5.out.below hb6)
  have HB6 := Lib.hid (bel_trans HB5.out hb6)
  clear ho6 hb6
  go_wp2_with fail
  refine (sameShapes_t _ _ q5 c5 q6 c6 hs5 hs6 _ w6 HO56.out HO6.out hq5 HPF.out).mono ?_
  rintro e w7 ⟨rfl, hb7⟩
  have HE7 := Lib.hid (HE6.out.below hb7)
  have HD7 := Lib.hid (HD6.out.below hb7)
  have HB7 := Lib.hid (bel_trans HB6.out hb7)
  clear hb7
  go_wp2_with fail
  exact HYY.out _ _ _ _ _ _ _ _ _ _ _ _ _ _ _ _ _ _ _ _ _ _ _ _ _ _ _ _ _ _ _ _ _ _ _ _ _ _ _ _ _ _ _ _ _ _ _ _ _ _ _ _ _ _ _ _ _ _ _ _ _ _ _ _ _ _ _ _ _ _ _ _ _ _ _ _ _ _ _ _ _ _ _ _ _ _ _ _ _ _ _ _ _ _ _ _ _ _ _ _ _ _ _ _ _ _ _ _ _ _ _ _ _ _ _ _ _ _ _ _ _ _ _ _ _ _ _ _ _ _ _ _ _ _ _ _ _ _ _ _ _ _ _ _ _ _ _ _ _ _ _ _ _ _ _ _ _ _ _ _ _ _ _ _ _ _ _ _ _ _ _ _ _ _ _ _ _ _ _ _ _ _ _ _ _ _ _ _ _ _ _ _ _ _ _ _ _ _ _ _ _ D E k cD q cE xs hsE w7 HB7.out HD7.out HK.out hk1 hkc1 HE7.out
end Go.Proofs.YtkcgdnnipohehaaGreatDoor

/- The law on free shapes: orientations add up. -/
namespace Go.Proofs.YtkcgdnnipohehaaGreatDoor
open Go.RowKit
set_option linter.unusedVariables false
attribute [local go_sem ↓] Go.wp_at_zero Go.wp_at_succ

def orTo2 (F : List (List C)) (k : Nat) : Nat := ((F.take k).map fun s => (orV s).length).sum
theorem orTo2_succ (F : List (List C)) (k : Nat) (f : List C) (h : F[k]? = some f) : orTo2 F (k + 1) = orTo2 F k + (orV f).length := by
  obtain ⟨hk, rfl⟩ := List.getElem?_eq_some_iff.1 h
  unfold orTo2
  rw [List.take_succ_eq_append_getElem hk, List.map_append, List.sum_append]
  simp
theorem orTo2_le (F : List (List C)) : ∀ k, orTo2 F k ≤ 8 * k
  | 0 => by simp [orTo2]
  | k + 1 => by
    have ih := orTo2_le F k
    cases h : F[k]? with
    | none =>
      have e : orTo2 F (k + 1) = orTo2 F k := by
        have h2 := List.getElem?_eq_none_iff.1 h
        unfold orTo2
        rw [List.take_of_length_le (by omega), List.take_of_length_le (by omega)]
      omega
    | some f =>
      rw [orTo2_succ F k f h]
      have := orV_len f
      omega
/-- Free shapes stand for all fixed ones. -/
theorem or_all (m : Int) (h4 : m ≤ 4) : orTo2 (frV (fixA m) 8) (frV (fixA m) 8).length = (fixA m).length := by
  unfold orTo2
  rw [List.take_length]
  by_cases h1 : 1 ≤ m
  · have e : fixA m = fixV (m.toNat - 1) := by unfold fixA; rw [if_pos ⟨h1, by omega⟩]
    rw [e]
    exact or_sum (by omega)
  · have e : fixA m = [] := by unfold fixA; rw [if_neg (fun h => h1 h.1)]
    rw [e]
    rfl
set_option maxRecDepth 100000 in
set_option maxHeartbeats 6400000 in
theorem freT6 {s1 s2 s4 s6 s7 s8 s9 s10 s11 s12 s13 s14 s15 s16 s17 s18 s19 s20 s21 s22 s23 s24 s25 s26 s27 s28 s29 s30 s31 s32 s33 s34 s35 s36 s37 s38 s39 s40 s41 s42 s43 s44 s45 s46 s47 s48 s49 s50 s51 s52 s53 s54 s55 s56 s57 s58 s59 s60 s61 s62 s63 s64 s65 s66 s67 s68 s69 s70 s71 s72 s73 s74 s75 s76 s77 s78 s79 s80 s81 s82 s83 s84 s85 s86 s87 s88 s89 s90 s91 s92 s93 s94 s95 s96 s97 s98 s99 s100 s101 s102 s103 s104 s105 s106 s107 s108 s109 s110 s111 s112 s113 s114 s115 s116 s117 s118 s119 s120 s121 s122 s123 s124 s125 s126 s127 s128 s129 s130 s131 s132 s133 s134 s135 s136 s137 s138 s139 s140 s141 s142 s143 s144 s145 s146 s147 s148 s149 s150 s151 s152 s153 s154 s155 s156 s157 s158 s159 s160 s161 s162 s163 s164 s165 s166 s167 s168 s169 s170 s171 s172 s173 s174 s175 s176 s177 s178 s179 s180 s181 s182 s183 s184 s185 s186 s187 s188 s189 s190 s191 s192 s193 s194 s195 s196 s197 s198 s199 s200 s201 s202 s203 s204 : Value} (m : Int) (A : Option Addr) (n c : Nat) (bs0 : List UInt8) (w y0 : World) (hr : Rd w A (vB bs0)) (hl : bs0.length = n) (hn : n ≤ 1048576) (hmx : Mx w) (hby : Below w.heap.size w y0)
    (hm4 : m ≤ 4) {B : Option Addr} {q cB : Nat} {hsB : List H} (hB : RdF y0 B q hsB (frV (fixA m) 8)) :
    Code.wp Tryz.prog (freB 6) (bodyPost Tryz.prog Tryz.f4 (Ret w (.bool true))) ⟨List.toArray ((.slice A n c) :: s1 :: s2 :: (.int .i64 m) :: s4 :: (.slice B q cB) :: s6 :: s7 :: s8 :: s9 :: s10 :: s11 :: s12 :: s13 :: s14 :: s15 :: s16 :: s17 :: s18 :: s19 :: s20 :: s21 :: s22 :: s23 :: s24 :: s25 :: s26 :: s27 :: s28 :: s29 :: s30 :: s31 :: s32 :: s33 :: s34 :: s35 :: s36 :: s37 :: s38 :: s39 :: s40 :: s41 :: s42 :: s43 :: s44 :: s45 :: s46 :: s47 :: s48 :: s49 :: s50 :: s51 :: s52 :: s53 :: s54 :: s55 :: s56 :: s57 :: s58 :: s59 :: s60 :: s61 :: s62 :: s63 :: s64 :: s65 :: s66 :: s67 :: s68 :: s69 :: s70 :: s71 :: s72 :: s73 :: s74 :: s75 :: s76 :: s77 :: s78 :: s79 :: s80 :: s81 :: s82 :: s83 :: s84 :: s85 :: s86 :: s87 :: s88 :: s89 :: s90 :: s91 :: s92 :: s93 :: s94 :: s95 :: s96 :: s97 :: s98 :: s99 :: s100 :: s101 :: s102 :: s103 :: s104 :: s105 :: s106 :: s107 :: s108 :: s109 :: s110 :: s111 :: s112 :: s113 :: s114 :: s115 :: s116 :: s117 :: s118 :: s119 :: s120 :: s121 :: s122 :: s123 :: s124 :: s125 :: s126 :: s127 :: s128 :: s129 :: s130 :: s131 :: s132 :: s133 :: s134 :: s135 :: s136 :: s137 :: s138 :: s139 :: s140 :: s141 :: s142 :: s143 :: s144 :: s145 :: s146 :: s147 :: s148 :: s149 :: s150 :: s151 :: s152 :: s153 :: s154 :: s155 :: s156 :: s157 :: s158 :: s159 :: s160 :: s161 :: s162 :: s163 :: s164 :: s165 :: s166 :: s167 :: s168 :: s169 :: s170 :: s171 :: s172 :: s173 :: s174 :: s175 :: s176 :: s177 :: s178 :: s179 :: s180 :: s181 :: s182 :: s183 :: s184 :: s185 :: s186 :: s187 :: s188 :: s189 :: s190 :: s191 :: s192 :: s193 :: s194 :: s195 :: s196 :: s197 :: s198 :: s199 :: s200 :: s201 :: s202 :: s203 :: s204 :: []), []⟩ y0 := by
  have HR := Lib.hid hr
  have HL := Lib.hid hl
  have HMX := Lib.hid hmx
  have HBY := Lib.hid hby
  have HBF := Lib.hid hB
  have hql := hB.flen
  have hqm : q ≤ 1048576 := by have := fr_len m 8; omega
  have hall := or_all m hm4
  rw [hql] at hall
  have HSH : Hid (∀ x ∈ frV (fixA m) 8, isShape x = true) := fun x hx => fixA_shape2 m x (by unfold frV at hx; exact (List.mem_filter.1 hx).1)
  have hfl := fixA_len2 m
  have HFE : Hid (∀ x ∈ fixA m, x.length ≤ 1048576) := fun x hx => by have := (shape_len (fixA_shape2 m x hx)).2; omega
  have hc6 : 1 ≤ m → cntV m 6 = ((fixA m).length : Nat) := fun h => by unfold cntV fixA; rw [if_pos ⟨h, by omega⟩, if_pos ⟨h, by omega⟩]
  have hc4 : 1 ≤ m → cntV m 4 = ((fixA m).length : Nat) := fun h => by unfold cntV fixA; rw [if_pos ⟨h, hm4⟩, if_pos ⟨h, by omega⟩]
  obtain ⟨F8, hF8⟩ : ∃ F, frV (fixA m) 8 = F := ⟨_, rfl⟩
  rw [hF8] at HBF hall HSH
  have HFI : Hid (∀ w', Calls Tryz.prog 33 #[.int .i64 m] w' (RetF w' (fixA m))) := fun w' => FixedShapes_i m w'
  have HFS : Hid (∀ w', Calls Tryz.prog 34 #[.int .i64 m] w' (RetFA w' (fixA m))) := fun w' => FixedShapes_s m w'
  have HG : Hid (∀ w', 1 ≤ m → Calls Tryz.prog 35 #[.int .i64 m] w' (Ret w' (.int .i64 ((fixA m).length : Nat)))) := fun w' h => hc6 h ▸ CountByGrowth_i m w'
  have HGR : Hid (∀ w', 1 ≤ m → Calls Tryz.prog 36 #[.int .i64 m] w' (Ret w' (.int .i64 ((fixA m).length : Nat)))) := fun w' h => hc4 h ▸ CountByRows_i m w'
  obtain ⟨Fm, hFm⟩ : ∃ F, fixA m = F := ⟨_, rfl⟩
  rw [hFm] at hall hfl HFE HFI HFS HG HGR
  have HALL := Lib.hid hall
  have HFL := Lib.hid hfl
  clear hr hl hmx hby hB hql hall hfl hc6 hc4 hF8 hFm
  obtain ⟨yy, hyy⟩ : ∃ y, freB 10 = y := ⟨_, rfl⟩
  have hyyq : ∀ (s1 s2 s4 s5 s6 s7 s8 s9 s10 s11 s12 s13 s14 s15 s16 s17 s18 s19 s20 s21 s22 s23 s24 s25 s26 s27 s28 s29 s30 s31 s32 s33 s34 s35 s36 s37 s38 s39 s40 s41 s42 s43 s44 s45 s46 s47 s48 s49 s50 s51 s52 s53 s54 s55 s56 s57 s58 s59 s60 s61 s62 s63 s64 s65 s66 s67 s68 s69 s70 s71 s72 s73 s74 s75 s76 s77 s78 s79 s80 s81 s82 s83 s84 s85 s86 s87 s88 s89 s90 s91 s92 s93 s94 s95 s96 s97 s98 s99 s100 s101 s102 s103 s104 s105 s106 s107 s108 s109 s110 s111 s112 s113 s114 s115 s116 s117 s118 s119 s120 s121 s122 s123 s124 s125 s126 s127 s128 s129 s130 s131 s132 s133 s134 s135 s136 s137 s138 s139 s140 s141 s142 s143 s144 s145 s146 s147 s148 s149 s150 s151 s152 s153 s154 s155 s156 s157 s158 s159 s160 s161 s162 s163 s164 s165 s166 s167 s168 s169 s170 s171 s172 s173 s174 s175 s176 s177 s178 s179 s180 s181 s182 s183 s184 s185 s186 s187 s188 s189 s190 s191 s192 s193 s194 s195 s196 s197 s198 s199 s200 s201 s202 s203 s204 : Value) (w' : World), Below w.heap.size w w' → Code.wp Tryz.prog yy (bodyPost Tryz.prog Tryz.f4 (Ret w (.bool true))) ⟨List.toArray ((.slice A n c) :: s1 :: s2 :: (.int .i64 m) :: s4 :: s5 :: s6 :: s7 :: s8 :: s9 :: s10 :: s11 :: s12 :: s13 :: s14 :: s15 :: s16 :: s17 :: s18 :: s19 :: s20 :: s21 :: s22 :: s23 :: s24 :: s25 :: s26 :: s27 :: s28 :: s29 :: s30 :: s31 :: s32 :: s33 :: s34 :: s35 :: s36 :: s37 :: s38 :: s39 :: s40 :: s41 :: s42 :: s43 :: s44 :: s45 :: s46 :: s47 :: s48 :: s49 :: s50 :: s51 :: s52 :: s53 :: s54 :: s55 :: s56 :: s57 :: s58 :: s59 :: s60 :: s61 :: s62 :: s63 :: s64 :: s65 :: s66 :: s67 :: s68 :: s69 :: s70 :: s71 :: s72 :: s73 :: s74 :: s75 :: s76 :: s77 :: s78 :: s79 :: s80 :: s81 :: s82 :: s83 :: s84 :: s85 :: s86 :: s87 :: s88 :: s89 :: s90 :: s91 :: s92 :: s93 :: s94 :: s95 :: s96 :: s97 :: s98 :: s99 :: s100 :: s101 :: s102 :: s103 :: s104 :: s105 :: s106 :: s107 :: s108 :: s109 :: s110 :: s111 :: s112 :: s113 :: s114 :: s115 :: s116 :: s117 :: s118 :: s119 :: s120 :: s121 :: s122 :: s123 :: s124 :: s125 :: s126 :: s127 :: s128 :: s129 :: s130 :: s131 :: s132 :: s133 :: s134 :: s135 :: s136 :: s137 :: s138 :: s139 :: s140 :: s141 :: s142 :: s143 :: s144 :: s145 :: s146 :: s147 :: s148 :: s149 :: s150 :: s151 :: s152 :: s153 :: s154 :: s155 :: s156 :: s157 :: s158 :: s159 :: s160 :: s161 :: s162 :: s163 :: s164 :: s165 :: s166 :: s167 :: s168 :: s169 :: s170 :: s171 :: s172 :: s173 :: s174 :: s175 :: s176 :: s177 :: s178 :: s179 :: s180 :: s181 :: s182 :: s183 :: s184 :: s185 :: s186 :: s187 :: s188 :: s189 :: s190 :: s191 :: s192 :: s193 :: s194 :: s195 :: s196 :: s197 :: s198 :: s199 :: s200 :: s201 :: s202 :: s203 :: s204 :: []), []⟩ w' := by
    intro _ _ _ _ _ _ _ _ _ _ _ _ _ _ _ _ _ _ _ _ _ _ _ _ _ _ _ _ _ _ _ _ _ _ _ _ _ _ _ _ _ _ _ _ _ _ _ _ _ _ _ _ _ _ _ _ _ _ _ _ _ _ _ _ _ _ _ _ _ _ _ _ _ _ _ _ _ _ _ _ _ _ _ _ _ _ _ _ _ _ _ _ _ _ _ _ _ _ _ _ _ _ _ _ _ _ _ _ _ _ _ _ _ _ _ _ _ _ _ _ _ _ _ _ _ _ _ _ _ _ _ _ _ _ _ _ _ _ _ _ _ _ _ _ _ _ _ _ _ _ _ _ _ _ _ _ _ _ _ _ _ _ _ _ _ _ _ _ _ _ _ _ _ _ _ _ _ _ _ _ _ _ _ _ _ _ _ _ _ _ _ _ _ _ _ _ _ _ _ _ _ _ _ w' hb'
    rw [← hyy]
    exact freT10 m A n c bs0 w w' HR.out HL.out hn HMX.out hb'
  have HYY := Lib.hid @hyyq
  clear hyyq
  conv at hyy => lhs; whnf
  conv => arg 2; whnf
  rw [hyy]
  clear hyy
  go_wp2_with fail
  go_loopw [7, 6] (fun e7 e6 wr => ∃ i : Nat, i ≤ q ∧ e7 = .int .i64 i ∧ e6 = .int .i64 (orTo2 F8 i : Nat) ∧ Below y0.heap.size y0 wr) (fun e7 _ _ => q - (intOf e7).toNat)
  case atStart => exact ⟨0, Nat.zero_le _, rfl, rfl, Below.refl _ _⟩
  case round =>
    obtain ⟨i, hi, rfl, rfl, hb⟩ := hrel
    have HB := Lib.hid hb
    clear hb
    by_cases hlt : i < q
    · have hi0 : (0 : Int) ≤ (i : Int) := by omega
      have hi1 : (i : Int) < (q : Int) := by omega
      obtain ⟨x, f, g, off, hxx, hf, hA, hg, d1, hcr⟩ := (HBF.out.below HB.out).at_ hlt
      have hfs := HSH.out f (List.mem_of_getElem? hf)
      have hst := orTo2_succ F8 i f hf
      have hle := orTo2_le F8 i
      have hol := orV_len f
      obtain ⟨E1, m1, k1⟩ := x
      dsimp only at d1
      have HOR : Hid (∀ w', Below wr.heap.size wr w' → Calls Tryz.prog 32 #[.slice E1 m1 k1] w' (PutS w'.heap.size w' (orV f))) := fun w' hb => OrientationsOf_s E1 m1 k1 f w' (hcr.below hb).2.1 hcr.1 hfs
      obtain ⟨oF, hoF⟩ : ∃ F, orV f = F := ⟨_, rfl⟩
      rw [hoF] at hst hol HOR
      obtain ⟨tt, htt⟩ : ∃ t, orTo2 F8 i = t := ⟨_, rfl⟩
      rw [htt] at hst hle ⊢
      have HST := Lib.hid hst
      subst hA
      clear hxx hf hcr hfs hst hoF htt
      go_wp2_with fail
      refine (HOR.out _ (Below.refl _ _)).mono ?_
      rintro e w2 ⟨g2, q2, c2, hs2, rfl, ho2, hb2⟩
      have hq2 : oF.length = q2 := ho2.flen
      have HQ2 := Lib.hid hq2
      have HB2 := Lib.hid (bel_trans HB.out hb2)
      have hq8 : q2 ≤ 8 := by omega
      have hsum : IntKind.i64.wrap ((tt : Int) + (q2 : Int)) = (tt : Int) + (q2 : Int) := Go.IntWalk.i64_in _ (by omega)
      clear ho2 hb2 hq2 d1
      go_wp2_with fail
      exact ⟨⟨i + 1, by omega, by go_num, by rw [HST.out, HQ2.out]; simp, HB2.out⟩, by simp [intOf]; omega⟩
    · obtain rfl : i = q := by omega
      have hi1 : ¬ (i : Int) < (i : Int) := by omega
      by_cases hm1 : 1 ≤ m
      · have hge : m ≥ 1 := hm1
        have hle5 : m ≤ 5 := by omega
        go_wp2_with fail
        refine (HFI.out wr).mono ?_
        rintro e w2 ⟨B2, q2, c2, hs2, rfl, ho2, hb2⟩
        have HO2 := Lib.hid ho2.rd
        have hq2 : q2 = orTo2 F8 i := by rw [HALL.out]; exact ho2.flen.symm
        have hq2m : q2 ≤ 1048576 := by have h1 := ho2.flen; have h2 := HFL.out; omega
        have HB2 := Lib.hid (bel_trans HB.out hb2)
        have hLL : Fm.length = q2 := ho2.flen
        rw [← hq2]
        rw [hLL] at HG HGR
        have hne : ((q2 : Int) != (q2 : Int)) = false := by simp
        clear ho2 hb2 hq2 hLL
        go_wp2_with fail
        refine (HFS.out w2).mono ?_
        rintro e w3 ⟨g3, q3, c3, hs3, rfl, ho3, hb3⟩
        have HO3 := Lib.hid ho3.rd
        have HO23 := Lib.hid (HO2.out.below hb3)
        have HB3 := Lib.hid (bel_trans HB2.out hb3)
        clear ho3 hb3
        go_wp2_with fail
        refine (sameShapes_t _ _ q2 c2 q3 c3 hs2 hs3 Fm w3 HO23.out HO3.out hq2m HFE.out).mono ?_
        rintro e w4 ⟨rfl, hb4⟩
        have HB4 := Lib.hid (bel_trans HB3.out hb4)
        clear hb4
        have HG1 : Hid (∀ w', Calls Tryz.prog 35 #[.int .i64 m] w' (Ret w' (.int .i64 (q2 : Int)))) := fun w' => HG.out w' hm1
        have HGR1 : Hid (∀ w', Calls Tryz.prog 36 #[.int .i64 m] w' (Ret w' (.int .i64 (q2 : Int)))) := fun w' => HGR.out w' hm1
        go_wp2_with fail
        refine (HG1.out w4).mono ?_
        rintro e w5 ⟨rfl, hb5⟩
        have HB5 := Lib.hid (bel_trans HB4.out hb5)
        clear hb5
        go_wp2_with fail
        refine (HGR1.out w5).mono ?_
        rintro e w6 ⟨rfl, hb6⟩
        have HB6 := Lib.hid (bel_trans HB5.out hb6)
        clear hb6
        go_wp2_with fail
        exact HYY.out _ _ _ _ _ _ _ _ _ _ _ _ _ _ _ _ _ _ _ _ _ _ _ _ _ _ _ _ _ _ _ _ _ _ _ _ _ _ _ _ _ _ _ _ _ _ _ _ _ _ _ _ _ _ _ _ _ _ _ _ _ _ _ _ _ _ _ _ _ _ _ _ _ _ _ _ _ _ _ _ _ _ _ _ _ _ _ _ _ _ _ _ _ _ _ _ _ _ _ _ _ _ _ _ _ _ _ _ _ _ _ _ _ _ _ _ _ _ _ _ _ _ _ _ _ _ _ _ _ _ _ _ _ _ _ _ _ _ _ _ _ _ _ _ _ _ _ _ _ _ _ _ _ _ _ _ _ _ _ _ _ _ _ _ _ _ _ _ _ _ _ _ _ _ _ _ _ _ _ _ _ _ _ _ _ _ _ _ _ _ _ _ _ _ _ _ _ _ _ _ _ _ _ w6 (bel_trans HBY.out HB6.out)
      · have hge : ¬ m ≥ 1 := hm1
        go_wp2_with fail
        refine (HFI.out wr).mono ?_
        rintro e w2 ⟨B2, q2, c2, hs2, rfl, ho2, hb2⟩
        have HO2 := Lib.hid ho2.rd
        have hq2 : q2 = orTo2 F8 i := by rw [HALL.out]; exact ho2.flen.symm
        have hq2m : q2 ≤ 1048576 := by have h1 := ho2.flen; have h2 := HFL.out; omega
        have HB2 := Lib.hid (bel_trans HB.out hb2)
        have hLL : Fm.length = q2 := ho2.flen
        rw [← hq2]
        rw [hLL] at HG HGR
        have hne : ((q2 : Int) != (q2 : Int)) = false := by simp
        clear ho2 hb2 hq2 hLL
        go_wp2_with fail
        refine (HFS.out w2).mono ?_
        rintro e w3 ⟨g3, q3, c3, hs3, rfl, ho3, hb3⟩
        have HO3 := Lib.hid ho3.rd
        have HO23 := Lib.hid (HO2.out.below hb3)
        have HB3 := Lib.hid (bel_trans HB2.out hb3)
        clear ho3 hb3
        go_wp2_with fail
        refine (sameShapes_t _ _ q2 c2 q3 c3 hs2 hs3 Fm w3 HO23.out HO3.out hq2m HFE.out).mono ?_
        rintro e w4 ⟨rfl, hb4⟩
        have HB4 := Lib.hid (bel_trans HB3.out hb4)
        clear hb4
        go_wp2_with fail
        exact HYY.out _ _ _ _ _ _ _ _ _ _ _ _ _ _ _ _ _ _ _ _ _ _ _ _ _ _ _ _ _ _ _ _ _ _ _ _ _ _ _ _ _ _ _ _ _ _ _ _ _ _ _ _ _ _ _ _ _ _ _ _ _ _ _ _ _ _ _ _ _ _ _ _ _ _ _ _ _ _ _ _ _ _ _ _ _ _ _ _ _ _ _ _ _ _ _ _ _ _ _ _ _ _ _ _ _ _ _ _ _ _ _ _ _ _ _ _ _ _ _ _ _ _ _ _ _ _ _ _ _ _ _ _ _ _ _ _ _ _ _ _ _ _ _ _ _ _ _ _ _ _ _ _ _ _ _ _ _ _ _ _ _ _ _ _ _ _ _ _ _ _ _ _ _ _ _ _ _ _ _ _ _ _ _ _ _ _ _ _ _ _ _ _ _ _ _ _ _ _ _ _ _ _ _ w4 (bel_trans HBY.out HB4.out)
end Go.Proofs.YtkcgdnnipohehaaGreatDoor

/- What the laws on drawn values share: bytes opened, sizes, lists compared. -/
namespace Go.Proofs.YtkcgdnnipohehaaGreatDoor
open Go.ChangeShapes Go.WideShapes Go.ChangeAt Go.RowKit
set_option linter.unusedVariables false
attribute [local go_sem ↓] Go.wp_at_zero Go.wp_at_succ
section
variable {H : Type} {enc : TypeId × Value → H}
theorem cellsB : Tryz.prog.cellsOf 5 = 1 := by kernel_rfl
set_option maxRecDepth 100000 in
theorem openB {W : World} {r : Reach} {b0 : Nat} {t : TypeId} (ht : Tryz.prog.underlying t = some (.slice 5)) {base : Nat} {spare : Nat → Bool} {held : Bool} {v : Value} {d : DataW H} {p : List MemPlace} (hv : Value.okWide Tryz.prog W r b0 t v) (h : DataW.Trod enc Tryz.prog W base spare held t v d p) :
    ∃ A n c xs, v = .slice A n c ∧ Rd W A (vB xs) ∧ xs.length = n ∧ n ≤ maxLen := by
  obtain ⟨a0, len, cap, rfl⟩ := okWide_slice ht hv
  obtain ⟨fuel, hf⟩ := h
  rcases open_ints ht Tryz.underlying5 cellsB hf with ⟨hcs, hx⟩ | ⟨a, len', cap', zs, hcs, _, hl, hm, hz, hx, hcell, hwz⟩
  · simp [Value.cells] at hcs
    obtain ⟨rfl, rfl, rfl⟩ := hcs
    exact ⟨none, 0, 0, [], rfl, .inl rfl, rfl, Nat.zero_le _⟩
  · simp [Value.cells] at hcs
    obtain ⟨rfl, rfl, rfl⟩ := hcs
    have hzl : len ≤ zs.length := by rw [hz]; split <;> omega
    have hrng : ∀ z ∈ zs, 0 ≤ z ∧ z < 256 := fun z hz2 => by
      have := hwz z hz2
      simp [Lit.wf, IntKind.min, IntKind.max, IntKind.bits, IntKind.signed] at this
      omega
    refine ⟨_, _, _, (zs.take len).map (fun z => UInt8.ofNat z.toNat), rfl, ?_, by rw [List.length_map, List.length_take]; omega, by omega⟩
    by_cases h0 : 0 < zs.length
    · obtain ⟨ab, ao, spot⟩ := a
      have hspot : spot = none := by simpa [Addr.add] using World.cell?_spot (hcell 0 h0)
      subst hspot
      refine .inr ⟨ab, ao, rfl, fun j u hu => ?_⟩
      simp only [vB, List.getElem?_map, Option.map_eq_some_iff] at hu
      obtain ⟨x, ⟨z, hz1, rfl⟩, rfl⟩ := hu
      have hjl : j < len := by
        rcases Nat.lt_or_ge j len with h | h
        · exact h
        · rw [List.getElem?_eq_none (by rw [List.length_take]; omega)] at hz1; cases hz1
      rw [List.getElem?_take_of_lt hjl] at hz1
      have h3 := hcell j (by omega)
      have h4 := hrng z (List.mem_of_getElem? hz1)
      rw [show (⟨ab, ao + j, none⟩ : Addr) = (⟨ab, ao, none⟩ : Addr).add j from by simp [Addr.add], h3, List.getD_eq_getElem?_getD, hz1]
      have e : ((UInt8.ofNat z.toNat).toNat : Int) = z := by
        rw [UInt8.toNat_ofNat_of_lt' (by show z.toNat < 256; omega)]
        omega
      rw [e]
      rfl
    · left
      rw [List.eq_nil_of_length_eq_zero (by omega : zs.length = 0)]
      simp [vB]
end
theorem big_l (A : Option Addr) (n c : Nat) (w : World) : Calls Tryz.prog 5 #[.slice A n c] w (Ret w (.bool (decide ((n : Int) > 1048576)))) := by
  go_enter Tryz.func5, Tryz.ntmps5
  go_wp2_with fail
  go_ret
  exact ⟨rfl, Below.refl _ _⟩
end Go.Proofs.YtkcgdnnipohehaaGreatDoor

/- The law on free shapes. -/
namespace Go.Proofs.YtkcgdnnipohehaaGreatDoor
open Go.RowKit
set_option linter.unusedVariables false
attribute [local go_sem ↓] Go.wp_at_zero Go.wp_at_succ

set_option maxRecDepth 100000 in
set_option maxHeartbeats 6400000 in
theorem law_FnFree (A : Option Addr) (n c : Nat) (bs0 : List UInt8) (w : World) (hr : Rd w A (vB bs0)) (hl : bs0.length = n) (hm : n ≤ maxLen) (hmx : Mx w) :
    Calls Tryz.prog 4 #[.slice A n c] w (Ret w (.bool true)) := by
  have HR := Lib.hid hr
  have HL := Lib.hid hl
  have HMX := Lib.hid hmx
  clear hr hl hmx
  by_cases hbig : (n : Int) > 1048576
  · have hd : decide ((n : Int) > 1048576) = true := decide_eq_true hbig
    go_enter Tryz.func4, Tryz.ntmps4
    go_wp2_with fail
    refine (big_l A n c w).mono ?_
    rw [hd]
    rintro e w1 ⟨rfl, hb1⟩
    clear hd
    go_wp2_with fail
    go_ret
    exact ⟨rfl, hb1⟩
  · have hd : decide ((n : Int) > 1048576) = false := decide_eq_false hbig
    have hn : n ≤ 1048576 := by omega
    clear hbig hm
    obtain ⟨yy, hyy⟩ : ∃ y, freB 6 = y := ⟨_, rfl⟩
    have hyyq : ∀ (s1 s2 s4 s6 s7 s8 s9 s10 s11 s12 s13 s14 s15 s16 s17 s18 s19 s20 s21 s22 s23 s24 s25 s26 s27 s28 s29 s30 s31 s32 s33 s34 s35 s36 s37 s38 s39 s40 s41 s42 s43 s44 s45 s46 s47 s48 s49 s50 s51 s52 s53 s54 s55 s56 s57 s58 s59 s60 s61 s62 s63 s64 s65 s66 s67 s68 s69 s70 s71 s72 s73 s74 s75 s76 s77 s78 s79 s80 s81 s82 s83 s84 s85 s86 s87 s88 s89 s90 s91 s92 s93 s94 s95 s96 s97 s98 s99 s100 s101 s102 s103 s104 s105 s106 s107 s108 s109 s110 s111 s112 s113 s114 s115 s116 s117 s118 s119 s120 s121 s122 s123 s124 s125 s126 s127 s128 s129 s130 s131 s132 s133 s134 s135 s136 s137 s138 s139 s140 s141 s142 s143 s144 s145 s146 s147 s148 s149 s150 s151 s152 s153 s154 s155 s156 s157 s158 s159 s160 s161 s162 s163 s164 s165 s166 s167 s168 s169 s170 s171 s172 s173 s174 s175 s176 s177 s178 s179 s180 s181 s182 s183 s184 s185 s186 s187 s188 s189 s190 s191 s192 s193 s194 s195 s196 s197 s198 s199 s200 s201 s202 s203 s204 : Value) (m : Int) (B : Option Addr) (q : Nat) (cB : Nat) (hsB : List H) (w' : World), Below w.heap.size w w' → m ≤ 4 → RdF w' B q hsB (frV (fixA m) 8) → Code.wp Tryz.prog yy (bodyPost Tryz.prog Tryz.f4 (Ret w (.bool true))) ⟨List.toArray ((.slice A n c) :: s1 :: s2 :: (.int .i64 m) :: s4 :: (.slice B q cB) :: s6 :: s7 :: s8 :: s9 :: s10 :: s11 :: s12 :: s13 :: s14 :: s15 :: s16 :: s17 :: s18 :: s19 :: s20 :: s21 :: s22 :: s23 :: s24 :: s25 :: s26 :: s27 :: s28 :: s29 :: s30 :: s31 :: s32 :: s33 :: s34 :: s35 :: s36 :: s37 :: s38 :: s39 :: s40 :: s41 :: s42 :: s43 :: s44 :: s45 :: s46 :: s47 :: s48 :: s49 :: s50 :: s51 :: s52 :: s53 :: s54 :: s55 :: s56 :: s57 :: s58 :: s59 :: s60 :: s61 :: s62 :: s63 :: s64 :: s65 :: s66 :: s67 :: s68 :: s69 :: s70 :: s71 :: s72 :: s73 :: s74 :: s75 :: s76 :: s77 :: s78 :: s79 :: s80 :: s81 :: s82 :: s83 :: s84 :: s85 :: s86 :: s87 :: s88 :: s89 :: s90 :: s91 :: s92 :: s93 :: s94 :: s95 :: s96 :: s97 :: s98 :: s99 :: s100 :: s101 :: s102 :: s103 :: s104 :: s105 :: s106 :: s107 :: s108 :: s109 :: s110 :: s111 :: s112 :: s113 :: s114 :: s115 :: s116 :: s117 :: s118 :: s119 :: s120 :: s121 :: s122 :: s123 :: s124 :: s125 :: s126 :: s127 :: s128 :: s129 :: s130 :: s131 :: s132 :: s133 :: s134 :: s135 :: s136 :: s137 :: s138 :: s139 :: s140 :: s141 :: s142 :: s143 :: s144 :: s145 :: s146 :: s147 :: s148 :: s149 :: s150 :: s151 :: s152 :: s153 :: s154 :: s155 :: s156 :: s157 :: s158 :: s159 :: s160 :: s161 :: s162 :: s163 :: s164 :: s165 :: s166 :: s167 :: s168 :: s169 :: s170 :: s171 :: s172 :: s173 :: s174 :: s175 :: s176 :: s177 :: s178 :: s179 :: s180 :: s181 :: s182 :: s183 :: s184 :: s185 :: s186 :: s187 :: s188 :: s189 :: s190 :: s191 :: s192 :: s193 :: s194 :: s195 :: s196 :: s197 :: s198 :: s199 :: s200 :: s201 :: s202 :: s203 :: s204 :: []), []⟩ w' := by
      intro _ _ _ _ _ _ _ _ _ _ _ _ _ _ _ _ _ _ _ _ _ _ _ _ _ _ _ _ _ _ _ _ _ _ _ _ _ _ _ _ _ _ _ _ _ _ _ _ _ _ _ _ _ _ _ _ _ _ _ _ _ _ _ _ _ _ _ _ _ _ _ _ _ _ _ _ _ _ _ _ _ _ _ _ _ _ _ _ _ _ _ _ _ _ _ _ _ _ _ _ _ _ _ _ _ _ _ _ _ _ _ _ _ _ _ _ _ _ _ _ _ _ _ _ _ _ _ _ _ _ _ _ _ _ _ _ _ _ _ _ _ _ _ _ _ _ _ _ _ _ _ _ _ _ _ _ _ _ _ _ _ _ _ _ _ _ _ _ _ _ _ _ _ _ _ _ _ _ _ _ _ _ _ _ _ _ _ _ _ _ _ _ _ _ _ _ _ _ _ _ _ _ m B q cB hsB w' hb' h1 h2
      rw [← hyy]
      exact freT6 m A n c bs0 w w' HR.out HL.out hn HMX.out hb' h1 h2
    have HYY := Lib.hid @hyyq
    clear hyyq
    conv at hyy => lhs; whnf
    go_enter Tryz.func4, Tryz.ntmps4
    rw [hyy]
    clear hyy
    go_wp2_with fail
    refine (big_l A n c w).mono ?_
    rw [hd]
    rintro e w1 ⟨rfl, hb1⟩
    have HB1 := Lib.hid hb1
    clear hd hb1
    go_wp2_with fail
    refine (DrawFreeShapes_s A n c bs0 w1 (HR.out.below HB1.out) HL.out hn).mono ?_
    rintro e w2 ⟨p, rfl, hp, hb2⟩
    obtain ⟨m, hmq⟩ : ∃ m : Int, (p : Int) - 1 = m := ⟨_, rfl⟩
    have hm4 : m ≤ 4 := by omega
    rw [hmq]
    have HB2 := Lib.hid (bel_trans HB1.out hb2)
    have h8a := fr_len m 8
    have HF : Hid (∀ x ∈ frV (fixA m) 8, x.length ≤ 1048576) := fr_few m 8
    have HI : Hid (∀ w', Calls Tryz.prog 27 #[.int .i64 m] w' (RetF w' (frV (fixA m) 8))) := fun w' => FreeShapes_i m w'
    have HS : Hid (∀ w', Calls Tryz.prog 28 #[.int .i64 m] w' (RetFA2 w' (frV (fixA m) 8))) := fun w' => FreeShapes_s m w'
    clear hb2 hmq hp
    go_wp2_with fail
    refine (HI.out w2).mono ?_
    rintro e w3 ⟨E, q3, c3, hs3, rfl, ho3, hb3⟩
    have hq3 : q3 ≤ 1048576 := by have := ho3.flen; omega
    have HO3 := Lib.hid ho3.rd
    have HB3 := Lib.hid (bel_trans HB2.out hb3)
    clear ho3 hb3 h8a
    go_wp2_with fail
    refine (HS.out w3).mono ?_
    rintro e w4 ⟨B, q4, c4, hs4, rfl, ho4, hb4⟩
    have HO4 := Lib.hid ho4.rd
    have HO34 := Lib.hid (HO3.out.below hb4)
    have HB4 := Lib.hid (bel_trans HB3.out hb4)
    clear ho4 hb4
    go_wp2_with fail
    refine (sameShapes_t _ _ q3 c3 q4 c4 hs3 hs4 _ w4 HO34.out HO4.out hq3 HF.out).mono ?_
    rintro e w5 ⟨rfl, hb5⟩
    have HO45 := Lib.hid (HO4.out.below hb5)
    have HB5 := Lib.hid (bel_trans HB4.out hb5)
    have hcc : (cfV m != cfV m) = false := by simp
    clear hb5 HO3 HO4 HO34
    go_wp2_with fail
    refine (CountFree_i m w5).mono ?_
    rintro e w6 ⟨rfl, hb6⟩
    have HO46 := Lib.hid (HO45.out.below hb6)
    have HB6 := Lib.hid (bel_trans HB5.out hb6)
    clear hb6
    go_wp2_with fail
    refine (CountFree_s m w6).mono ?_
    rintro e w7 ⟨rfl, hb7⟩
    have HO47 := Lib.hid (HO46.out.below hb7)
    have HB7 := Lib.hid (bel_trans HB6.out hb7)
    clear hb7
    go_wp2_with fail
    exact HYY.out _ _ _ _ _ _ _ _ _ _ _ _ _ _ _ _ _ _ _ _ _ _ _ _ _ _ _ _ _ _ _ _ _ _ _ _ _ _ _ _ _ _ _ _ _ _ _ _ _ _ _ _ _ _ _ _ _ _ _ _ _ _ _ _ _ _ _ _ _ _ _ _ _ _ _ _ _ _ _ _ _ _ _ _ _ _ _ _ _ _ _ _ _ _ _ _ _ _ _ _ _ _ _ _ _ _ _ _ _ _ _ _ _ _ _ _ _ _ _ _ _ _ _ _ _ _ _ _ _ _ _ _ _ _ _ _ _ _ _ _ _ _ _ _ _ _ _ _ _ _ _ _ _ _ _ _ _ _ _ _ _ _ _ _ _ _ _ _ _ _ _ _ _ _ _ _ _ _ _ _ _ _ _ _ _ _ _ _ _ _ _ _ _ _ _ _ _ _ _ _ _ _ m B q4 c4 hs4 w7 HB7.out hm4 HO47.out
end Go.Proofs.YtkcgdnnipohehaaGreatDoor
