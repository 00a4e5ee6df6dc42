/- Texts of this claim, one behind the other: part 2. -/
import Derived.Test.YtfnphchcgaebkaaGreatU1FnSnakes
import Derived.Outline
import Derived.WalkLawsBesides
import Derived.WalkSpells
import Derived.BigQuiet
import Derived.Deep.QuietTactic
import Derived.Deep.RegionHeld3
import Derived.Deep.RegionWith
import Derived.Deep.DeepCutAuto
import Derived.Deep.CutBlock
import Derived.Deep.DrawnRows
/- The program's search for what hangs together. -/
namespace Go.Proofs.YtfnphchcgaebkaaGreat
open Go.RowKit
set_option linter.unusedVariables false
attribute [local go_sem ↓] Go.wp_at_zero Go.wp_at_succ

set_option maxHeartbeats 1600000 in
theorem hangs_i (A : Option Addr) (n c : Nat) (xs : List C) (w : World) (hr : Rd w A (vC xs)) (hl : xs.length = n) (hs : isShape xs = true) :
    Calls Tryz.prog 69 #[.slice A n c] w (Ret w (.bool (conn xs))) := by
  have HL := Lib.hid hl
  have hlen := shape_len hs
  have hsm := shape_small hs
  have hn8 : n ≤ 8 := by omega
  have hn1 : 1 ≤ n := by omega
  have hnp : (0 : Int) < (n : Int) := by omega
  have hnz : ((n : Int) == 0) = false := by simp; omega
  have hmk := mk_L w n (by omega)
  have hM0 := Marks.init xs (by omega)
  have hC0 := cnt_init xs.length (by omega)
  rw [hl] at hM0 hC0
  have hB0 : Blk (w.alloc (.cells ((vL (List.replicate n false)).set 0 (.bool true)).toArray 4)) w.heap.size 4 (vL ((List.replicate n false).set 0 true)).toArray := by
    have h := Blk.new w 4 (vL ((List.replicate n false).set 0 true)).toArray
    rw [show vL ((List.replicate n false).set 0 true) = (vL (List.replicate n false)).set 0 (.bool true) from by simp [vL, List.map_set]] at h ⊢
    exact h
  have k0 : (w.alloc (.cells (vL (List.replicate n false)).toArray 4)).cell? ⟨w.heap.size, 0, none⟩ = some (.bool false) := blkL_cell (Blk.new _ _ _) (by rw [List.getElem?_replicate, if_pos (by omega)])
  have k0f : (w.alloc (.cells (vL (List.replicate n false)).toArray 4)).frozen? ⟨w.heap.size, 0, none⟩ = false := (Blk.new w 4 (vL (List.replicate n false)).toArray).frozen 0
  have HS := Lib.hid hs
  have HSM := Lib.hid hsm
  have HM0 := Lib.hid hM0
  have HC0 := Lib.hid hC0
  have HB0 := Lib.hid hB0
  clear hs hlen hsm hl hM0 hC0 hB0
  go_enter Tryz.func69, Tryz.ntmps69
  go_wp2
  go_loopw [5, 4] (fun m s wr => ∃ (fl : List Bool) (b : Bool) (q : Nat), m = .bool b ∧ s = .int .i64 q ∧ q = cnt fl ∧ q ≤ n ∧ Marks xs fl ∧ (b = false → Cl xs fl n 0) ∧ Blk wr w.heap.size 4 (vL fl).toArray ∧ Below w.heap.size w wr) (fun m s _ => n - (intOf s).toNat + boolOf m)
  case atStart => exact ⟨_, true, 1, rfl, rfl, HC0.out.symm, hn1, HM0.out, by simp, HB0.out, (by (repeat (first | with_reducible exact Below.refl _ _ | with_reducible assumption | with_reducible apply bel_alloc | with_reducible apply bel_drew | with_reducible apply bel_drewN | ((with_reducible refine bel_set ?_ ?_); rotate_left; (simp <;> omega)) | (with_reducible refine bel_trans ?_ (by with_reducible assumption)))))⟩
  case round =>
    clear hmk k0 k0f HM0 HC0 HB0
    obtain ⟨fl, b, q, rfl, rfl, hq, hqn, hM, hC, hB, hb⟩ := hrel
    cases b with
    | false =>
      have hv := conn_marks hM HS.out (hC rfl) (by rw [HL.out]; omega)
      rw [HL.out, ← hq] at hv
      have hv2 : conn xs = ((q : Int) == (n : Int)) := by
        rw [hv, Bool.eq_iff_iff, decide_eq_true_eq, beq_iff_eq]; omega
      have HV := Lib.hid hv2
      clear hv hv2 hC hM hB hq
      go_wp2
      go_ret
      exact ⟨by rw [HV.out]; rfl, (by (repeat (first | with_reducible exact Below.refl _ _ | with_reducible assumption | with_reducible apply bel_alloc | with_reducible apply bel_drew | with_reducible apply bel_drewN | ((with_reducible refine bel_set ?_ ?_); rotate_left; (simp <;> omega)) | (with_reducible refine bel_trans ?_ (by with_reducible assumption)))))⟩
    | true =>
      have HQ := Lib.hid hq
      have HM := Lib.hid hM
      have HB := Lib.hid hB
      clear hq hM hB hC
      go_wp2
      go_loopw [19, 5, 4] (fun i m s wr => ∃ (k : Nat) (fl : List Bool) (b : Bool) (p : Nat), k ≤ n ∧ i = .int .i64 k ∧ m = .bool b ∧ s = .int .i64 p ∧ p = cnt fl ∧ p ≤ n ∧ q ≤ p ∧ (b = true → q < p) ∧ Marks xs fl ∧ (b = false → Cl xs fl k 0) ∧ Blk wr w.heap.size 4 (vL fl).toArray ∧ Below w.heap.size w wr) (fun i _ _ _ => n - (intOf i).toNat)
      case atStart => exact ⟨0, fl, false, q, Nat.zero_le _, rfl, rfl, rfl, HQ.out, hqn, Nat.le_refl _, by simp, HM.out, fun _ => Cl.zero _ _, HB.out, hb⟩
      case round =>
        clear HQ HM HB hb hqn
        obtain ⟨k, fl, b, p, hk, rfl, rfl, rfl, hp, hpn, hqp, hbq, hM, hC, hB, hb⟩ := hrel
        by_cases hlt : k < n
        · have HP := Lib.hid hp
          have HM := Lib.hid hM
          have HB := Lib.hid hB
          have HC := Lib.hid hC
          have HBQ := Lib.hid hbq
          clear hp hM hB hC hbq
          go_wp2
          go_loopw [24, 5, 4] (fun i m s wr => ∃ (j : Nat) (fl : List Bool) (b : Bool) (p : Nat), j ≤ n ∧ i = .int .i64 j ∧ m = .bool b ∧ s = .int .i64 p ∧ p = cnt fl ∧ p ≤ n ∧ q ≤ p ∧ (b = true → q < p) ∧ Marks xs fl ∧ (b = false → Cl xs fl k j) ∧ Blk wr w.heap.size 4 (vL fl).toArray ∧ Below w.heap.size w wr) (fun i _ _ _ => n - (intOf i).toNat)
          case atStart => exact ⟨0, fl, b, p, Nat.zero_le _, rfl, rfl, rfl, HP.out, hpn, hqp, HBQ.out, HM.out, HC.out, HB.out, hb⟩
          case round =>
            clear HP HM HB HC HBQ hb hpn hqp
            obtain ⟨j, fl, b, p, hj, rfl, rfl, rfl, hp, hpn, hqp, hbq, hM, hC, hB, hb⟩ := hrel
            by_cases hlj : j < n
            · have hkx : k < xs.length := by rw [HL.out]; omega
              have hjx : j < xs.length := by rw [HL.out]; omega
              have hrw := hr.below hb
              obtain ⟨g, off, rfl, hgw, c1, c2⟩ := RdC.at_ hrw hkx
              have d12 : wr.cell? ⟨g, off + j * 2, none⟩ = some (.int .i64 xs[j].1) ∧ wr.cell? ⟨g, off + j * 2 + 1, none⟩ = some (.int .i64 xs[j].2) := by
                obtain ⟨g', off', e, _, h1, h2⟩ := RdC.at_ hrw hjx
                simp only [Option.some.injEq, Addr.mk.injEq, and_true] at e
                obtain ⟨rfl, rfl⟩ := e
                exact ⟨h1, h2⟩
              obtain ⟨d1, d2⟩ := d12
              have hne := nearI_eq (HSM.out _ (List.getElem_mem hkx)) (HSM.out _ (List.getElem_mem hjx))
              obtain ⟨f1, hf1⟩ : ∃ f1, fl[k]? = some f1 := ⟨_, List.getElem?_eq_getElem (by rw [hM.len]; exact hkx)⟩
              obtain ⟨f2, hf2⟩ : ∃ f2, fl[j]? = some f2 := ⟨_, List.getElem?_eq_getElem (by rw [hM.len]; exact hjx)⟩
              have b1 := blkL_cell hB hf1
              have b2 := blkL_cell hB hf2
              have HNX : Hid (f1 = true → near xs[k] xs[j] = true → Marks xs (fl.set j true)) := fun h1 h2 => hM.set_ hkx hjx (by rw [hf1, h1]) h2
              have HCN : Hid ((f1 && (!f2 && near xs[k] xs[j])) = false → b = false → Cl xs fl k (j + 1)) := fun h1 h2 => (hC h2).step hkx hjx fun h3 h4 => by
                rw [hf1] at h3; injection h3 with h3
                rw [h3, h4] at h1
                rw [hf2]; simpa using h1
              have HCT : Hid (f2 = false → cnt (fl.set j true) = p + 1) := fun h => by rw [cnt_set _ _ (by rw [hf2, h]), ← hp]
              have HLE : Hid (Marks xs (fl.set j true) → f2 = false → p + 1 ≤ n) := fun h1 h2 => by
                have := cnt_le (fl.set j true)
                rw [h1.len, HL.out, cnt_set _ _ (by rw [hf2, h2]), ← hp] at this
                exact this
              obtain ⟨⟨x, y⟩, hx⟩ : ∃ p, xs[k] = p := ⟨_, rfl⟩
              obtain ⟨⟨x', y'⟩, hx'⟩ : ∃ p, xs[j] = p := ⟨_, rfl⟩
              rw [hx] at c1 c2
              rw [hx'] at d1 d2
              rw [hx, hx'] at hne HNX HCN
              have hi0 : (0 : Int) ≤ (k : Int) := by omega
              have hi1 : (k : Int) < (n : Int) := by omega
              have hi2 : (0 : Int) ≤ (j : Int) := by omega
              have hi3 : (j : Int) < (n : Int) := by omega
              have hgl := hB.lt
              have hfz := hB.frozen j
              have HP := Lib.hid hp
              have HM := Lib.hid hM
              have HB := Lib.hid hB
              have HC := Lib.hid hC
              have HBQ := Lib.hid hbq
              have HW := Lib.hid hne
              clear hp hM hB hC hbq hne hx hx' hf1 hf2
              go_upto_region 15 with fail
              go_cut [48] (fun s wx => s = .bool (f1 && (!f2 && near (x, y) (x', y'))) ∧ Below wr.heap.size wr wx)
              case first =>
                cases f1 with
                | false =>
                  refine wp_region_noPanic ?_
                  refine wp_region_held_drew (S := (fun w' => w'.cell? ⟨w.heap.size, k, none⟩ = some (.bool false) ∧ w'.cell? ⟨w.heap.size, j, none⟩ = some (.bool f2) ∧ w'.cell? ⟨g, off + k * 2, none⟩ = some (.int .i64 x) ∧ w'.cell? ⟨g, off + k * 2 + 1, none⟩ = some (.int .i64 y) ∧ w'.cell? ⟨g, off + j * 2, none⟩ = some (.int .i64 x') ∧ w'.cell? ⟨g, off + j * 2 + 1, none⟩ = some (.int .i64 y'))) (by kernel_rfl) ?_ (fun hS => ?_)
                  · ((go_split_ands; (try dsimp only); (repeat' (with_reducible apply And.intro)) <;> (repeat (first | with_reducible assumption | with_reducible apply keep_alloc | with_reducible apply keep_drew | with_reducible refine keep_below hb1 ?_ | ((with_reducible refine keep_set ?_ ?_); rotate_left; (simp <;> omega))))))
                  refine wpT (i := 0) (v := ?_) rfl rfl (by kernel_rfl) (by kernel_rfl) (by kernel_rfl) (fun _ _ _ h => h) (Or.inl ⟨by rfl, ?_⟩) hS ?_
                  rotate_left
                  · (intro w hSw; (try dsimp only at hSw); go_simp; first | done | with_reducible rfl)
                  simp only [List.setIfInBounds_toArray, List.set_cons_zero, List.set_cons_succ]
                  refine wpT (i := 1) (v := ?_) rfl rfl (by kernel_rfl) (by kernel_rfl) (by kernel_rfl) (fun _ _ _ h => h) (Or.inl ⟨by rfl, ?_⟩) hS ?_
                  rotate_left
                  · (intro w hSw; (try dsimp only at hSw); go_simp; first | done | with_reducible rfl)
                  simp only [List.setIfInBounds_toArray, List.set_cons_zero, List.set_cons_succ]
                  refine wpT (i := 2) (v := ?_) rfl rfl (by kernel_rfl) (by kernel_rfl) (by kernel_rfl) (fun _ _ _ h => h) (Or.inl ⟨by rfl, ?_⟩) hS ?_
                  rotate_left
                  · (intro w hSw; (try dsimp only at hSw); go_simp; first | done | with_reducible rfl)
                  simp only [List.setIfInBounds_toArray, List.set_cons_zero, List.set_cons_succ]
                  refine wpT (i := 3) (v := ?_) rfl rfl (by kernel_rfl) (by kernel_rfl) (by kernel_rfl) (fun _ _ _ h => h) (Or.inl ⟨by rfl, ?_⟩) hS ?_
                  rotate_left
                  · (intro w hSw; (try dsimp only at hSw); go_simp; first | done | with_reducible rfl)
                  simp only [List.setIfInBounds_toArray, List.set_cons_zero, List.set_cons_succ]
                  refine wpT (i := 4) (v := ?_) rfl rfl (by kernel_rfl) (by kernel_rfl) (by kernel_rfl) (fun _ _ _ h => h) (Or.inl ⟨by rfl, ?_⟩) hS ?_
                  rotate_left
                  · (intro w hSw; (try dsimp only at hSw); go_simp; first | done | with_reducible rfl)
                  simp only [List.setIfInBounds_toArray, List.set_cons_zero, List.set_cons_succ]
                  refine wpT (i := 5) (v := undef) rfl rfl (by kernel_rfl) (by kernel_rfl) (by kernel_rfl) (fun _ _ _ h => h) (Or.inr ⟨by rfl, rfl⟩) hS ?_
                  simp only [List.setIfInBounds_toArray, List.set_cons_zero, List.set_cons_succ]
                  refine wpT (i := 6) (v := undef) rfl rfl (by kernel_rfl) (by kernel_rfl) (by kernel_rfl) (fun _ _ _ h => h) (Or.inr ⟨by rfl, rfl⟩) hS ?_
                  simp only [List.setIfInBounds_toArray, List.set_cons_zero, List.set_cons_succ]
                  refine wpT (i := 7) (v := undef) rfl rfl (by kernel_rfl) (by kernel_rfl) (by kernel_rfl) (fun _ _ _ h => h) (Or.inr ⟨by rfl, rfl⟩) hS ?_
                  simp only [List.setIfInBounds_toArray, List.set_cons_zero, List.set_cons_succ]
                  refine wpT (i := 8) (v := undef) rfl rfl (by kernel_rfl) (by kernel_rfl) (by kernel_rfl) (fun _ _ _ h => h) (Or.inr ⟨by rfl, rfl⟩) hS ?_
                  simp only [List.setIfInBounds_toArray, List.set_cons_zero, List.set_cons_succ]
                  refine wpT (i := 9) (v := undef) rfl rfl (by kernel_rfl) (by kernel_rfl) (by kernel_rfl) (fun _ _ _ h => h) (Or.inr ⟨by rfl, rfl⟩) hS ?_
                  simp only [List.setIfInBounds_toArray, List.set_cons_zero, List.set_cons_succ]
                  refine wpT (i := 10) (v := ?_) rfl rfl (by kernel_rfl) (by kernel_rfl) (by kernel_rfl) (fun _ _ _ h => h) (Or.inl ⟨by rfl, ?_⟩) hS ?_
                  rotate_left
                  · (intro w hSw; (try dsimp only at hSw); go_simp; first | done | with_reducible rfl)
                  simp only [List.setIfInBounds_toArray, List.set_cons_zero, List.set_cons_succ]
                  refine wpT (i := 11) (v := ?_) rfl rfl (by kernel_rfl) (by kernel_rfl) (by kernel_rfl) (fun _ _ _ h => h) (Or.inl ⟨by rfl, ?_⟩) hS ?_
                  rotate_left
                  · (intro w hSw; (try dsimp only at hSw); go_simp; first | done | with_reducible rfl)
                  simp only [List.setIfInBounds_toArray, List.set_cons_zero, List.set_cons_succ]
                  refine wpT (i := 12) (v := undef) rfl rfl (by kernel_rfl) (by kernel_rfl) (by kernel_rfl) (fun _ _ _ h => h) (Or.inr ⟨by rfl, rfl⟩) hS ?_
                  simp only [List.setIfInBounds_toArray, List.set_cons_zero, List.set_cons_succ]
                  refine wpT (i := 13) (v := undef) rfl rfl (by kernel_rfl) (by kernel_rfl) (by kernel_rfl) (fun _ _ _ h => h) (Or.inr ⟨by rfl, rfl⟩) hS ?_
                  simp only [List.setIfInBounds_toArray, List.set_cons_zero, List.set_cons_succ]
                  refine wpT (i := 14) (v := undef) rfl rfl (by kernel_rfl) (by kernel_rfl) (by kernel_rfl) (fun _ _ _ h => h) (Or.inr ⟨by rfl, rfl⟩) hS ?_
                  simp only [List.setIfInBounds_toArray, List.set_cons_zero, List.set_cons_succ]
                  refine wpT (i := 15) (v := undef) rfl rfl (by kernel_rfl) (by kernel_rfl) (by kernel_rfl) (fun _ _ _ h => h) (Or.inr ⟨by rfl, rfl⟩) hS ?_
                  simp only [List.setIfInBounds_toArray, List.set_cons_zero, List.set_cons_succ]
                  refine wpT (i := 16) (v := undef) rfl rfl (by kernel_rfl) (by kernel_rfl) (by kernel_rfl) (fun _ _ _ h => h) (Or.inr ⟨by rfl, rfl⟩) hS ?_
                  simp only [List.setIfInBounds_toArray, List.set_cons_zero, List.set_cons_succ]
                  refine wpT (i := 17) (v := undef) rfl rfl (by kernel_rfl) (by kernel_rfl) (by kernel_rfl) (fun _ _ _ h => h) (Or.inr ⟨by rfl, rfl⟩) hS ?_
                  simp only [List.setIfInBounds_toArray, List.set_cons_zero, List.set_cons_succ]
                  refine wpT (i := 18) (v := undef) rfl rfl (by kernel_rfl) (by kernel_rfl) (by kernel_rfl) (fun _ _ _ h => h) (Or.inr ⟨by rfl, rfl⟩) hS ?_
                  simp only [List.setIfInBounds_toArray, List.set_cons_zero, List.set_cons_succ]
                  refine wpT (i := 19) (v := undef) rfl rfl (by kernel_rfl) (by kernel_rfl) (by kernel_rfl) (fun _ _ _ h => h) (Or.inr ⟨by rfl, rfl⟩) hS ?_
                  simp only [List.setIfInBounds_toArray, List.set_cons_zero, List.set_cons_succ]
                  refine wpT (i := 20) (v := undef) rfl rfl (by kernel_rfl) (by kernel_rfl) (by kernel_rfl) (fun _ _ _ h => h) (Or.inr ⟨by rfl, rfl⟩) hS ?_
                  simp only [List.setIfInBounds_toArray, List.set_cons_zero, List.set_cons_succ]
                  refine wpT (i := 21) (v := ?_) rfl rfl (by kernel_rfl) (by kernel_rfl) (by kernel_rfl) (fun _ _ _ h => h) (Or.inl ⟨by rfl, ?_⟩) hS ?_
                  rotate_left
                  · (intro w hSw; (try dsimp only at hSw); go_simp; first | done | with_reducible rfl)
                  simp only [List.setIfInBounds_toArray, List.set_cons_zero, List.set_cons_succ]
                  refine wpAnyH_done (by kernel_rfl) ?_ _
                  refine NoPanic.normal ?_
                  go_wp2_with fail
                  go_meet
                  exact ⟨rfl, (by (repeat (first | with_reducible exact Below.refl _ _ | with_reducible assumption | with_reducible apply bel_alloc | with_reducible apply bel_drew | with_reducible apply bel_drewN | ((with_reducible refine bel_set ?_ ?_); rotate_left; (simp <;> omega)) | (with_reducible refine bel_trans ?_ (by with_reducible assumption)))))⟩
                | true =>
                  cases f2 with
                  | true =>
                    refine wp_region_noPanic ?_
                    refine wp_region_held_drew (S := (fun w' => w'.cell? ⟨w.heap.size, k, none⟩ = some (.bool true) ∧ w'.cell? ⟨w.heap.size, j, none⟩ = some (.bool true) ∧ w'.cell? ⟨g, off + k * 2, none⟩ = some (.int .i64 x) ∧ w'.cell? ⟨g, off + k * 2 + 1, none⟩ = some (.int .i64 y) ∧ w'.cell? ⟨g, off + j * 2, none⟩ = some (.int .i64 x') ∧ w'.cell? ⟨g, off + j * 2 + 1, none⟩ = some (.int .i64 y'))) (by kernel_rfl) ?_ (fun hS => ?_)
                    · ((go_split_ands; (try dsimp only); (repeat' (with_reducible apply And.intro)) <;> (repeat (first | with_reducible assumption | with_reducible apply keep_alloc | with_reducible apply keep_drew | with_reducible refine keep_below hb1 ?_ | ((with_reducible refine keep_set ?_ ?_); rotate_left; (simp <;> omega))))))
                    refine wpT (i := 0) (v := ?_) rfl rfl (by kernel_rfl) (by kernel_rfl) (by kernel_rfl) (fun _ _ _ h => h) (Or.inl ⟨by rfl, ?_⟩) hS ?_
                    rotate_left
                    · (intro w hSw; (try dsimp only at hSw); go_simp; first | done | with_reducible rfl)
                    simp only [List.setIfInBounds_toArray, List.set_cons_zero, List.set_cons_succ]
                    refine wpT (i := 1) (v := ?_) rfl rfl (by kernel_rfl) (by kernel_rfl) (by kernel_rfl) (fun _ _ _ h => h) (Or.inl ⟨by rfl, ?_⟩) hS ?_
                    rotate_left
                    · (intro w hSw; (try dsimp only at hSw); go_simp; first | done | with_reducible rfl)
                    simp only [List.setIfInBounds_toArray, List.set_cons_zero, List.set_cons_succ]
                    refine wpT (i := 2) (v := ?_) rfl rfl (by kernel_rfl) (by kernel_rfl) (by kernel_rfl) (fun _ _ _ h => h) (Or.inl ⟨by rfl, ?_⟩) hS ?_
                    rotate_left
                    · (intro w hSw; (try dsimp only at hSw); go_simp; first | done | with_reducible rfl)
                    simp only [List.setIfInBounds_toArray, List.set_cons_zero, List.set_cons_succ]
                    refine wpT (i := 3) (v := ?_) rfl rfl (by kernel_rfl) (by kernel_rfl) (by kernel_rfl) (fun _ _ _ h => h) (Or.inl ⟨by rfl, ?_⟩) hS ?_
                    rotate_left
                    · (intro w hSw; (try dsimp only at hSw); go_simp; first | done | with_reducible rfl)
                    simp only [List.setIfInBounds_toArray, List.set_cons_zero, List.set_cons_succ]
                    refine wpT (i := 4) (v := ?_) rfl rfl (by kernel_rfl) (by kernel_rfl) (by kernel_rfl) (fun _ _ _ h => h) (Or.inl ⟨by rfl, ?_⟩) hS ?_
                    rotate_left
                    · (intro w hSw; (try dsimp only at hSw); go_simp; first | done | with_reducible rfl)
                    simp only [List.setIfInBounds_toArray, List.set_cons_zero, List.set_cons_succ]
                    refine wpT (i := 5) (v := ?_) rfl rfl (by kernel_rfl) (by kernel_rfl) (by kernel_rfl) (fun _ _ _ h => h) (Or.inl ⟨by rfl, ?_⟩) hS ?_
                    rotate_left
                    · (intro w hSw; (try dsimp only at hSw); go_simp; first | done | with_reducible rfl)
                    simp only [List.setIfInBounds_toArray, List.set_cons_zero, List.set_cons_succ]
                    refine wpT (i := 6) (v := ?_) rfl rfl (by kernel_rfl) (by kernel_rfl) (by kernel_rfl) (fun _ _ _ h => h) (Or.inl ⟨by rfl, ?_⟩) hS ?_
                    rotate_left
                    · (intro w hSw; (try dsimp only at hSw); go_simp; first | done | with_reducible rfl)
                    simp only [List.setIfInBounds_toArray, List.set_cons_zero, List.set_cons_succ]
                    refine wpT (i := 7) (v := ?_) rfl rfl (by kernel_rfl) (by kernel_rfl) (by kernel_rfl) (fun _ _ _ h => h) (Or.inl ⟨by rfl, ?_⟩) hS ?_
                    rotate_left
                    · (intro w hSw; (try dsimp only at hSw); go_simp; first | done | with_reducible rfl)
                    simp only [List.setIfInBounds_toArray, List.set_cons_zero, List.set_cons_succ]
                    refine wpT (i := 8) (v := ?_) rfl rfl (by kernel_rfl) (by kernel_rfl) (by kernel_rfl) (fun _ _ _ h => h) (Or.inl ⟨by rfl, ?_⟩) hS ?_
                    rotate_left
                    · (intro w hSw; (try dsimp only at hSw); go_simp; first | done | with_reducible rfl)
                    simp only [List.setIfInBounds_toArray, List.set_cons_zero, List.set_cons_succ]
                    refine wpT (i := 9) (v := ?_) rfl rfl (by kernel_rfl) (by kernel_rfl) (by kernel_rfl) (fun _ _ _ h => h) (Or.inl ⟨by rfl, ?_⟩) hS ?_
                    rotate_left
                    · (intro w hSw; (try dsimp only at hSw); go_simp; first | done | with_reducible rfl)
                    simp only [List.setIfInBounds_toArray, List.set_cons_zero, List.set_cons_succ]
                    refine wpT (i := 10) (v := ?_) rfl rfl (by kernel_rfl) (by kernel_rfl) (by kernel_rfl) (fun _ _ _ h => h) (Or.inl ⟨by rfl, ?_⟩) hS ?_
                    rotate_left
                    · (intro w hSw; (try dsimp only at hSw); go_simp; first | done | with_reducible rfl)
                    simp only [List.setIfInBounds_toArray, List.set_cons_zero, List.set_cons_succ]
                    refine wpT (i := 11) (v := ?_) rfl rfl (by kernel_rfl) (by kernel_rfl) (by kernel_rfl) (fun _ _ _ h => h) (Or.inl ⟨by rfl, ?_⟩) hS ?_
                    rotate_left
                    · (intro w hSw; (try dsimp only at hSw); go_simp; first | done | with_reducible rfl)
                    simp only [List.setIfInBounds_toArray, List.set_cons_zero, List.set_cons_succ]
                    refine wpT (i := 12) (v := undef) rfl rfl (by kernel_rfl) (by kernel_rfl) (by kernel_rfl) (fun _ _ _ h => h) (Or.inr ⟨by rfl, rfl⟩) hS ?_
                    simp only [List.setIfInBounds_toArray, List.set_cons_zero, List.set_cons_succ]
                    refine wpT (i := 13) (v := undef) rfl rfl (by kernel_rfl) (by kernel_rfl) (by kernel_rfl) (fun _ _ _ h => h) (Or.inr ⟨by rfl, rfl⟩) hS ?_
                    simp only [List.setIfInBounds_toArray, List.set_cons_zero, List.set_cons_succ]
                    refine wpT (i := 14) (v := undef) rfl rfl (by kernel_rfl) (by kernel_rfl) (by kernel_rfl) (fun _ _ _ h => h) (Or.inr ⟨by rfl, rfl⟩) hS ?_
                    simp only [List.setIfInBounds_toArray, List.set_cons_zero, List.set_cons_succ]
                    refine wpT (i := 15) (v := undef) rfl rfl (by kernel_rfl) (by kernel_rfl) (by kernel_rfl) (fun _ _ _ h => h) (Or.inr ⟨by rfl, rfl⟩) hS ?_
                    simp only [List.setIfInBounds_toArray, List.set_cons_zero, List.set_cons_succ]
                    refine wpT (i := 16) (v := undef) rfl rfl (by kernel_rfl) (by kernel_rfl) (by kernel_rfl) (fun _ _ _ h => h) (Or.inr ⟨by rfl, rfl⟩) hS ?_
                    simp only [List.setIfInBounds_toArray, List.set_cons_zero, List.set_cons_succ]
                    refine wpT (i := 17) (v := undef) rfl rfl (by kernel_rfl) (by kernel_rfl) (by kernel_rfl) (fun _ _ _ h => h) (Or.inr ⟨by rfl, rfl⟩) hS ?_
                    simp only [List.setIfInBounds_toArray, List.set_cons_zero, List.set_cons_succ]
                    refine wpT (i := 18) (v := undef) rfl rfl (by kernel_rfl) (by kernel_rfl) (by kernel_rfl) (fun _ _ _ h => h) (Or.inr ⟨by rfl, rfl⟩) hS ?_
                    simp only [List.setIfInBounds_toArray, List.set_cons_zero, List.set_cons_succ]
                    refine wpT (i := 19) (v := undef) rfl rfl (by kernel_rfl) (by kernel_rfl) (by kernel_rfl) (fun _ _ _ h => h) (Or.inr ⟨by rfl, rfl⟩) hS ?_
                    simp only [List.setIfInBounds_toArray, List.set_cons_zero, List.set_cons_succ]
                    refine wpT (i := 20) (v := undef) rfl rfl (by kernel_rfl) (by kernel_rfl) (by kernel_rfl) (fun _ _ _ h => h) (Or.inr ⟨by rfl, rfl⟩) hS ?_
                    simp only [List.setIfInBounds_toArray, List.set_cons_zero, List.set_cons_succ]
                    refine wpT (i := 21) (v := ?_) rfl rfl (by kernel_rfl) (by kernel_rfl) (by kernel_rfl) (fun _ _ _ h => h) (Or.inl ⟨by rfl, ?_⟩) hS ?_
                    rotate_left
                    · (intro w hSw; (try dsimp only at hSw); go_simp; first | done | with_reducible rfl)
                    simp only [List.setIfInBounds_toArray, List.set_cons_zero, List.set_cons_succ]
                    refine wpAnyH_done (by kernel_rfl) ?_ _
                    refine NoPanic.normal ?_
                    go_wp2_with fail
                    go_meet
                    exact ⟨rfl, (by (repeat (first | with_reducible exact Below.refl _ _ | with_reducible assumption | with_reducible apply bel_alloc | with_reducible apply bel_drew | with_reducible apply bel_drewN | ((with_reducible refine bel_set ?_ ?_); rotate_left; (simp <;> omega)) | (with_reducible refine bel_trans ?_ (by with_reducible assumption)))))⟩
                  | false =>
                    refine wp_region_noPanic ?_
                    refine wp_region_held_drew (S := (fun w' => w'.cell? ⟨w.heap.size, k, none⟩ = some (.bool true) ∧ w'.cell? ⟨w.heap.size, j, none⟩ = some (.bool false) ∧ w'.cell? ⟨g, off + k * 2, none⟩ = some (.int .i64 x) ∧ w'.cell? ⟨g, off + k * 2 + 1, none⟩ = some (.int .i64 y) ∧ w'.cell? ⟨g, off + j * 2, none⟩ = some (.int .i64 x') ∧ w'.cell? ⟨g, off + j * 2 + 1, none⟩ = some (.int .i64 y'))) (by kernel_rfl) ?_ (fun hS => ?_)
                    · ((go_split_ands; (try dsimp only); (repeat' (with_reducible apply And.intro)) <;> (repeat (first | with_reducible assumption | with_reducible apply keep_alloc | with_reducible apply keep_drew | with_reducible refine keep_below hb1 ?_ | ((with_reducible refine keep_set ?_ ?_); rotate_left; (simp <;> omega))))))
                    refine wpT (i := 0) (v := ?_) rfl rfl (by kernel_rfl) (by kernel_rfl) (by kernel_rfl) (fun _ _ _ h => h) (Or.inl ⟨by rfl, ?_⟩) hS ?_
                    rotate_left
                    · (intro w hSw; (try dsimp only at hSw); go_simp; first | done | with_reducible rfl)
                    simp only [List.setIfInBounds_toArray, List.set_cons_zero, List.set_cons_succ]
                    refine wpT (i := 1) (v := ?_) rfl rfl (by kernel_rfl) (by kernel_rfl) (by kernel_rfl) (fun _ _ _ h => h) (Or.inl ⟨by rfl, ?_⟩) hS ?_
                    rotate_left
                    · (intro w hSw; (try dsimp only at hSw); go_simp; first | done | with_reducible rfl)
                    simp only [List.setIfInBounds_toArray, List.set_cons_zero, List.set_cons_succ]
                    refine wpT (i := 2) (v := ?_) rfl rfl (by kernel_rfl) (by kernel_rfl) (by kernel_rfl) (fun _ _ _ h => h) (Or.inl ⟨by rfl, ?_⟩) hS ?_
                    rotate_left
                    · (intro w hSw; (try dsimp only at hSw); go_simp; first | done | with_reducible rfl)
                    simp only [List.setIfInBounds_toArray, List.set_cons_zero, List.set_cons_succ]
                    refine wpT (i := 3) (v := ?_) rfl rfl (by kernel_rfl) (by kernel_rfl) (by kernel_rfl) (fun _ _ _ h => h) (Or.inl ⟨by rfl, ?_⟩) hS ?_
                    rotate_left
                    · (intro w hSw; (try dsimp only at hSw); go_simp; first | done | with_reducible rfl)
                    simp only [List.setIfInBounds_toArray, List.set_cons_zero, List.set_cons_succ]
                    refine wpT (i := 4) (v := ?_) rfl rfl (by kernel_rfl) (by kernel_rfl) (by kernel_rfl) (fun _ _ _ h => h) (Or.inl ⟨by rfl, ?_⟩) hS ?_
                    rotate_left
                    · (intro w hSw; (try dsimp only at hSw); go_simp; first | done | with_reducible rfl)
                    simp only [List.setIfInBounds_toArray, List.set_cons_zero, List.set_cons_succ]
                    refine wpT (i := 5) (v := ?_) rfl rfl (by kernel_rfl) (by kernel_rfl) (by kernel_rfl) (fun _ _ _ h => h) (Or.inl ⟨by rfl, ?_⟩) hS ?_
                    rotate_left
                    · (intro w hSw; (try dsimp only at hSw); go_simp; first | done | with_reducible rfl)
                    simp only [List.setIfInBounds_toArray, List.set_cons_zero, List.set_cons_succ]
                    refine wpT (i := 6) (v := ?_) rfl rfl (by kernel_rfl) (by kernel_rfl) (by kernel_rfl) (fun _ _ _ h => h) (Or.inl ⟨by rfl, ?_⟩) hS ?_
                    rotate_left
                    · (intro w hSw; (try dsimp only at hSw); go_simp; first | done | with_reducible rfl)
                    simp only [List.setIfInBounds_toArray, List.set_cons_zero, List.set_cons_succ]
                    refine wpT (i := 7) (v := ?_) rfl rfl (by kernel_rfl) (by kernel_rfl) (by kernel_rfl) (fun _ _ _ h => h) (Or.inl ⟨by rfl, ?_⟩) hS ?_
                    rotate_left
                    · (intro w hSw; (try dsimp only at hSw); go_simp; first | done | with_reducible rfl)
                    simp only [List.setIfInBounds_toArray, List.set_cons_zero, List.set_cons_succ]
                    refine wpT (i := 8) (v := ?_) rfl rfl (by kernel_rfl) (by kernel_rfl) (by kernel_rfl) (fun _ _ _ h => h) (Or.inl ⟨by rfl, ?_⟩) hS ?_
                    rotate_left
                    · (intro w hSw; (try dsimp only at hSw); go_simp; first | done | with_reducible rfl)
                    simp only [List.setIfInBounds_toArray, List.set_cons_zero, List.set_cons_succ]
                    refine wpT (i := 9) (v := ?_) rfl rfl (by kernel_rfl) (by kernel_rfl) (by kernel_rfl) (fun _ _ _ h => h) (Or.inl ⟨by rfl, ?_⟩) hS ?_
                    rotate_left
                    · (intro w hSw; (try dsimp only at hSw); go_simp; first | done | with_reducible rfl)
                    simp only [List.setIfInBounds_toArray, List.set_cons_zero, List.set_cons_succ]
                    refine wpT (i := 10) (v := ?_) rfl rfl (by kernel_rfl) (by kernel_rfl) (by kernel_rfl) (fun _ _ _ h => h) (Or.inl ⟨by rfl, ?_⟩) hS ?_
                    rotate_left
                    · (intro w hSw; (try dsimp only at hSw); go_simp; first | done | with_reducible rfl)
                    simp only [List.setIfInBounds_toArray, List.set_cons_zero, List.set_cons_succ]
                    refine wpT (i := 11) (v := ?_) rfl rfl (by kernel_rfl) (by kernel_rfl) (by kernel_rfl) (fun _ _ _ h => h) (Or.inl ⟨by rfl, ?_⟩) hS ?_
                    rotate_left
                    · (intro w hSw; (try dsimp only at hSw); go_simp; first | done | with_reducible rfl)
                    simp only [List.setIfInBounds_toArray, List.set_cons_zero, List.set_cons_succ]
                    refine wpT (i := 12) (v := ?_) rfl rfl (by kernel_rfl) (by kernel_rfl) (by kernel_rfl) (fun _ _ _ h => h) (Or.inl ⟨by rfl, ?_⟩) hS ?_
                    rotate_left
                    · (intro w hSw; (try dsimp only at hSw); go_simp; first | done | with_reducible rfl)
                    simp only [List.setIfInBounds_toArray, List.set_cons_zero, List.set_cons_succ]
                    refine wpT (i := 13) (v := ?_) rfl rfl (by kernel_rfl) (by kernel_rfl) (by kernel_rfl) (fun _ _ _ h => h) (Or.inl ⟨by rfl, ?_⟩) hS ?_
                    rotate_left
                    · (intro w hSw; (try dsimp only at hSw); go_simp; first | done | with_reducible rfl)
                    simp only [List.setIfInBounds_toArray, List.set_cons_zero, List.set_cons_succ]
                    refine wpT (i := 14) (v := ?_) rfl rfl (by kernel_rfl) (by kernel_rfl) (by kernel_rfl) (fun _ _ _ h => h) (Or.inl ⟨by rfl, ?_⟩) hS ?_
                    rotate_left
                    · (intro w hSw; (try dsimp only at hSw); go_simp; first | done | with_reducible rfl)
                    simp only [List.setIfInBounds_toArray, List.set_cons_zero, List.set_cons_succ]
                    refine wpT (i := 15) (v := ?_) rfl rfl (by kernel_rfl) (by kernel_rfl) (by kernel_rfl) (fun _ _ _ h => h) (Or.inl ⟨by rfl, ?_⟩) hS ?_
                    rotate_left
                    · (intro w hSw; (try dsimp only at hSw); go_simp; first | done | with_reducible rfl)
                    simp only [List.setIfInBounds_toArray, List.set_cons_zero, List.set_cons_succ]
                    refine wpT (i := 16) (v := ?_) rfl rfl (by kernel_rfl) (by kernel_rfl) (by kernel_rfl) (fun _ _ _ h => h) (Or.inl ⟨by rfl, ?_⟩) hS ?_
                    rotate_left
                    · (intro w hSw; (try dsimp only at hSw); go_simp; first | done | with_reducible rfl)
                    simp only [List.setIfInBounds_toArray, List.set_cons_zero, List.set_cons_succ]
                    refine wpT (i := 17) (v := ?_) rfl rfl (by kernel_rfl) (by kernel_rfl) (by kernel_rfl) (fun _ _ _ h => h) (Or.inl ⟨by rfl, ?_⟩) hS ?_
                    rotate_left
                    · (intro w hSw; (try dsimp only at hSw); go_simp; first | done | with_reducible rfl)
                    simp only [List.setIfInBounds_toArray, List.set_cons_zero, List.set_cons_succ]
                    refine wpT (i := 18) (v := ?_) rfl rfl (by kernel_rfl) (by kernel_rfl) (by kernel_rfl) (fun _ _ _ h => h) (Or.inl ⟨by rfl, ?_⟩) hS ?_
                    rotate_left
                    · (intro w hSw; (try dsimp only at hSw); go_simp; first | done | with_reducible rfl)
                    simp only [List.setIfInBounds_toArray, List.set_cons_zero, List.set_cons_succ]
                    refine wpT (i := 19) (v := ?_) rfl rfl (by kernel_rfl) (by kernel_rfl) (by kernel_rfl) (fun _ _ _ h => h) (Or.inl ⟨by rfl, ?_⟩) hS ?_
                    rotate_left
                    · (intro w hSw; (try dsimp only at hSw); go_simp; first | done | with_reducible rfl)
                    simp only [List.setIfInBounds_toArray, List.set_cons_zero, List.set_cons_succ]
                    refine wpAnyH_ready (rs := [20]) (by kernel_rfl) (by simp) ?_
                    refine AllReadyH.cons rfl (fun K hK => ?_) AllReadyH.nil
                    go_simp
                    (go_at_call 34; refine (beside_i _ _ _ _ _).mono ?_; rw [HW.out]; rintro e w1 ⟨rfl, hb1⟩)
                    try go_wp2_with fail
                    refine hK.out _ _ ?_ (fun hS2 => ?_)
                    · (clear hK K; ((go_split_ands; (try dsimp only); (repeat' (with_reducible apply And.intro)) <;> (repeat (first | with_reducible assumption | with_reducible apply keep_alloc | with_reducible apply keep_drew | with_reducible refine keep_below hb1 ?_ | ((with_reducible refine keep_set ?_ ?_); rotate_left; (simp <;> omega)))))))
                    clear hS hK K
                    have hS := hS2
                    clear hS2
                    refine wpT (i := 21) (v := ?_) rfl rfl (by kernel_rfl) (by kernel_rfl) (by kernel_rfl) (fun _ _ _ h => h) (Or.inl ⟨by rfl, ?_⟩) hS ?_
                    rotate_left
                    · (intro w hSw; (try dsimp only at hSw); go_simp; first | done | with_reducible rfl)
                    simp only [List.setIfInBounds_toArray, List.set_cons_zero, List.set_cons_succ]
                    refine wpAnyH_done (by kernel_rfl) ?_ _
                    refine NoPanic.normal ?_
                    go_wp2_with fail
                    go_meet
                    exact ⟨by simp, (by (repeat (first | with_reducible exact Below.refl _ _ | with_reducible assumption | with_reducible apply bel_alloc | with_reducible apply bel_drew | with_reducible apply bel_drewN | ((with_reducible refine bel_set ?_ ?_); rotate_left; (simp <;> omega)) | (with_reducible refine bel_trans ?_ (by with_reducible assumption)))))⟩
              case rest =>
                obtain ⟨rfl, hb3⟩ := hcut
                cases hv : (f1 && (!f2 && near (x, y) (x', y'))) with
                | true =>
                  simp only [Bool.and_eq_true, Bool.not_eq_true'] at hv
                  obtain ⟨v1, v2, v3⟩ := hv
                  have hM2 := HNX.out v1 v3
                  have HC2 := Lib.hid (HCT.out v2)
                  have HL2 := HLE.out hM2 v2
                  have HM2 := Lib.hid hM2
                  have hB2 := HB.out.below hb3
                  have e1 := keep_below hb3 b2
                  have e2 := hB2.frozen j
                  have HB3 := Lib.hid (blkL_set hB2 j true)
                  clear hM2 hB2 v1 v2 v3 b1 b2 c1 c2 d1 d2 hfz
                  go_wp2_with fail
                  exact ⟨⟨j + 1, _, true, p + 1, by omega, by go_num, rfl, by go_num, HC2.out.symm, HL2, by omega, fun _ => by omega, HM2.out, by simp, HB3.out, (by (repeat (first | with_reducible exact Below.refl _ _ | with_reducible assumption | with_reducible apply bel_alloc | with_reducible apply bel_drew | with_reducible apply bel_drewN | ((with_reducible refine bel_set ?_ ?_); rotate_left; (simp <;> omega)) | (with_reducible refine bel_trans ?_ (by with_reducible assumption)))))⟩, by simp [intOf]; omega⟩
                | false =>
                  have HCN2 := Lib.hid (HCN.out hv)
                  have HB2 := Lib.hid (HB.out.below hb3)
                  clear hv b1 b2 c1 c2 d1 d2 hfz
                  go_wp2_with fail
                  exact ⟨⟨j + 1, fl, b, p, by omega, by go_num, rfl, rfl, HP.out, hpn, hqp, HBQ.out, HM.out, HCN2.out, HB2.out, (by (repeat (first | with_reducible exact Below.refl _ _ | with_reducible assumption | with_reducible apply bel_alloc | with_reducible apply bel_drew | with_reducible apply bel_drewN | ((with_reducible refine bel_set ?_ ?_); rotate_left; (simp <;> omega)) | (with_reducible refine bel_trans ?_ (by with_reducible assumption)))))⟩, by simp [intOf]; omega⟩
            · have hjn : j = n := by omega
              have HP := Lib.hid hp
              have HM := Lib.hid hM
              have HB := Lib.hid hB
              have HC : Hid (b = false → Cl xs fl (k + 1) 0) := fun h => (hC h).row (by rw [HL.out]; omega)
              have HBQ := Lib.hid hbq
              have hj5 : ¬ (j : Int) < (n : Int) := by omega
              clear hjn hp hM hB hC hbq
              go_wp2
              exact ⟨⟨k + 1, fl, b, p, by omega, by go_num, rfl, rfl, HP.out, hpn, hqp, HBQ.out, HM.out, HC.out, HB.out, (by (repeat (first | with_reducible exact Below.refl _ _ | with_reducible assumption | with_reducible apply bel_alloc | with_reducible apply bel_drew | with_reducible apply bel_drewN | ((with_reducible refine bel_set ?_ ?_); rotate_left; (simp <;> omega)) | (with_reducible refine bel_trans ?_ (by with_reducible assumption)))))⟩, by simp [intOf]; omega⟩
        · have hkn : k = n := by omega
          have HP := Lib.hid hp
          have HM := Lib.hid hM
          have HB := Lib.hid hB
          have HC : Hid (b = false → Cl xs fl n 0) := by rw [← hkn]; exact hC
          have HBQ := Lib.hid hbq
          have hj5 : ¬ (k : Int) < (n : Int) := by omega
          clear hkn hp hM hB hC hbq
          go_wp2
          exact ⟨⟨fl, b, p, rfl, rfl, HP.out, hpn, HM.out, HC.out, HB.out, (by (repeat (first | with_reducible exact Below.refl _ _ | with_reducible assumption | with_reducible apply bel_alloc | with_reducible apply bel_drew | with_reducible apply bel_drewN | ((with_reducible refine bel_set ?_ ?_); rotate_left; (simp <;> omega)) | (with_reducible refine bel_trans ?_ (by with_reducible assumption)))))⟩, by have := HBQ.out; cases b <;> simp [intOf, boolOf] at * <;> omega⟩
end Go.Proofs.YtfnphchcgaebkaaGreat

/- The reference's search by breadth: what is known on the way. No program is in sight. -/
namespace Go.Proofs.YtfnphchcgaebkaaGreat
open Go.RowKit
set_option linter.unusedVariables false
structure Bfs (xs seen : List C) (i j : Nat) : Prop where
  h0 : s0 xs ∈ seen
  sub : ∀ c ∈ seen, c ∈ xs
  nd : seen.Nodup
  rch : ∀ c ∈ seen, Rch xs (s0 xs) c
  cl : ∀ a (ha : a < seen.length) c, c ∈ xs → near seen[a] c = true → (a < i ∨ a = i ∧ ∃ b, b < j ∧ xs[b]? = some c) → c ∈ seen
theorem Bfs.init (xs : List C) (h : 1 ≤ xs.length) : Bfs xs [s0 xs] 0 0 := by
  have h0 : s0 xs ∈ xs := by
    cases xs with
    | nil => simp at h
    | cons a t => simp [s0]
  refine ⟨by simp, fun c hc => ?_, by simp, fun c hc => ?_, fun a ha c _ _ h1 => ?_⟩
  · simp only [List.mem_singleton] at hc; rw [hc]; exact h0
  · simp only [List.mem_singleton] at hc; rw [hc]; exact .base
  · rcases h1 with h1 | ⟨_, b, h1, _⟩ <;> omega
theorem Bfs.len {xs seen : List C} {i j : Nat} (h : Bfs xs seen i j) : seen.length ≤ xs.length := nodup_len seen xs h.nd h.sub
theorem Bfs.skip {xs seen : List C} {i j : Nat} (h : Bfs xs seen i j) (hi : i < seen.length) (hj : j < xs.length) (hn : near seen[i] xs[j] = true → hasC seen xs[j].1 xs[j].2 = true) : Bfs xs seen i (j + 1) := by
  refine ⟨h.h0, h.sub, h.nd, h.rch, fun a ha c hc hnr h1 => ?_⟩
  by_cases e : a = i ∧ xs[j]? = some c
  · obtain ⟨rfl, e⟩ := e
    rw [List.getElem?_eq_getElem hj] at e
    injection e with e
    subst e
    exact (hasC_iff _ _).1 (hn hnr)
  · refine h.cl a ha c hc hnr ?_
    rcases h1 with h1 | ⟨h1, b, hb, hbc⟩
    · exact .inl h1
    · refine .inr ⟨h1, b, ?_, hbc⟩
      rcases Nat.lt_or_ge b j with h2 | h2
      · exact h2
      · obtain rfl : b = j := by omega
        exact absurd ⟨h1, hbc⟩ e
theorem Bfs.push {xs seen : List C} {i j : Nat} (h : Bfs xs seen i j) (hi : i < seen.length) (hj : j < xs.length) (hn : near seen[i] xs[j] = true) (hh : hasC seen xs[j].1 xs[j].2 = false) : Bfs xs (seen ++ [xs[j]]) i (j + 1) := by
  have hnot : xs[j] ∉ seen := fun hm => by rw [(hasC_iff _ _).2 hm] at hh; cases hh
  refine ⟨by simp [h.h0], fun c hc => ?_, ?_, fun c hc => ?_, fun a ha c hc hnr h1 => ?_⟩
  · rcases List.mem_append.1 hc with hc | hc
    · exact h.sub c hc
    · simp only [List.mem_singleton] at hc; rw [hc]; exact List.getElem_mem hj
  · rw [List.nodup_append]
    refine ⟨h.nd, by simp, fun a ha b hb => ?_⟩
    simp only [List.mem_singleton] at hb
    subst hb
    rintro rfl
    exact hnot ha
  · rcases List.mem_append.1 hc with hc | hc
    · exact h.rch c hc
    · simp only [List.mem_singleton] at hc; rw [hc]; exact .step (h.rch _ (List.getElem_mem hi)) (List.getElem_mem hj) hn
  · rw [List.mem_append, List.mem_singleton]
    by_cases ha' : a < seen.length
    · rw [List.getElem_append_left ha'] at hnr
      by_cases e : c = xs[j]
      · exact .inr e
      · refine .inl (h.cl a ha' c hc hnr ?_)
        rcases h1 with h1 | ⟨h1, b, hb, hbc⟩
        · exact .inl h1
        · refine .inr ⟨h1, b, ?_, hbc⟩
          rcases Nat.lt_or_ge b j with h2 | h2
          · exact h2
          · obtain rfl : b = j := by omega
            rw [List.getElem?_eq_getElem hj] at hbc
            injection hbc with hbc
            exact absurd hbc.symm e
    · rcases h1 with h1 | ⟨h1, _⟩ <;> omega
theorem Bfs.row {xs seen : List C} {i j : Nat} (h : Bfs xs seen i j) (hj : xs.length ≤ j) : Bfs xs seen (i + 1) 0 := by
  refine ⟨h.h0, h.sub, h.nd, h.rch, fun a ha c hc hnr h1 => h.cl a ha c hc hnr ?_⟩
  rcases h1 with h1 | ⟨_, b, hb, _⟩
  · rcases Nat.lt_or_ge a i with h2 | h2
    · exact .inl h2
    · obtain ⟨b, hb, e⟩ := List.mem_iff_getElem.1 hc
      exact .inr ⟨by omega, b, by omega, by rw [List.getElem?_eq_getElem hb, e]⟩
  · omega
theorem Bfs.fin {xs seen : List C} {i j : Nat} (h : Bfs xs seen i j) (hs : xs.Nodup) (hi : seen.length ≤ i) : conn xs = decide (seen.length = xs.length) :=
  conn_of_list xs seen h.h0 h.sub h.nd hs h.rch fun b hb c hc hn => by
    obtain ⟨a, ha, rfl⟩ := List.mem_iff_getElem.1 hb
    exact h.cl a ha c hc hn (.inl (by omega))
end Go.Proofs.YtfnphchcgaebkaaGreat

/- The order of cells and shapes: walks of the reference. -/
namespace Go.Proofs.YtfnphchcgaebkaaGreat
open Go.RowKit
set_option linter.unusedVariables false
attribute [local go_sem ↓] Go.wp_at_zero Go.wp_at_succ

theorem onB_split (x y : Int) : onB (x, y) = ((decide (0 ≤ x) && decide (x ≤ 7)) && (decide (0 ≤ y) && decide (y ≤ 7))) := rfl
set_option maxHeartbeats 1600000 in
theorem IsShape_s (A : Option Addr) (n c : Nat) (xs : List C) (w : World) (hr : Rd w A (vC xs)) (hl : xs.length = n) (hn : n ≤ 1099511627776) :
    Calls Tryz.prog 36 #[.slice A n c] w (Ret w (.bool (isShape xs))) := by
  have HL := Lib.hid hl
  clear hl
  go_enter Tryz.func36, Tryz.ntmps36
  go_wp2
  go_loopw [3] (fun i wr => ∃ k : Nat, k ≤ n ∧ i = .int .i64 k ∧ shapeTo xs k = true ∧ Below w.heap.size w wr) (fun i _ => n - (intOf i).toNat)
  case atStart => exact ⟨0, Nat.zero_le _, rfl, rfl, Below.refl _ _⟩
  case round =>
    obtain ⟨k, hk, rfl, hgo, hb⟩ := hrel
    by_cases hlt : k < n
    · have hkx : k < xs.length := by rw [HL.out]; omega
      obtain ⟨g, off, rfl, hgw, c1, c2⟩ := RdC.at_ (hr.below hb) hkx
      have hs := shapeTo_succ xs k hkx
      have hno := isShape_no xs k hkx
      obtain ⟨⟨x, y⟩, hx⟩ : ∃ p, xs[k] = p := ⟨_, rfl⟩
      rw [hx] at c1 c2 hs hno
      have hi0 : (0 : Int) ≤ (k : Int) := by omega
      have hi1 : (k : Int) < (n : Int) := by omega
      have HS := Lib.hid hs
      have HNO := Lib.hid hno
      have HG := Lib.hid hgo
      have hrw := hr.below hb
      clear hs hno hgo hx
      go_upto_region 4 with fail
      go_cut [42] (fun s wx => s = .bool (!shapeAt xs k (x, y)) ∧ Below wr.heap.size wr wx)
      case first =>
        cases hbx : (decide (0 ≤ x) && decide (x ≤ 7)) with
        | false =>
          have HV : Hid (shapeAt xs k (x, y) = false) := by unfold Hid shapeAt; rw [onB_split, hbx]; rfl
          have HX := Lib.hid hbx.symm
          clear hbx
          refine wp_region_noPanic ?_
          refine wp_region_held_drew (S := (fun w' => w'.cell? ⟨g, off + k * 2, none⟩ = some (.int .i64 x) ∧ w'.cell? ⟨g, off + k * 2 + 1, none⟩ = some (.int .i64 y))) (by kernel_rfl) ?_ (fun hS => ?_)
          · ((go_split_ands; (try dsimp only); (repeat' (with_reducible apply And.intro)) <;> (repeat (first | with_reducible assumption | with_reducible apply keep_alloc | with_reducible apply keep_drew | with_reducible refine keep_below hb1 ?_ | ((with_reducible refine keep_set ?_ ?_); rotate_left; (simp <;> omega))))))
          refine wpT (i := 0) (v := ?_) rfl rfl (by kernel_rfl) (by kernel_rfl) (by kernel_rfl) (fun _ _ _ h => h) (Or.inl ⟨by rfl, ?_⟩) hS ?_
          rotate_left
          · (intro w hSw; (try dsimp only at hSw); go_simp; first | done | with_reducible rfl)
          simp only [List.setIfInBounds_toArray, List.set_cons_zero, List.set_cons_succ]
          refine wpT (i := 1) (v := ?_) rfl rfl (by kernel_rfl) (by kernel_rfl) (by kernel_rfl) (fun _ _ _ h => h) (Or.inl ⟨by rfl, ?_⟩) hS ?_
          rotate_left
          · (intro w hSw; (try dsimp only at hSw); go_simp; first | done | with_reducible rfl)
          simp only [List.setIfInBounds_toArray, List.set_cons_zero, List.set_cons_succ]
          refine wpT (i := 2) (v := ?_) rfl rfl (by kernel_rfl) (by kernel_rfl) (by kernel_rfl) (fun _ _ _ h => h) (Or.inl ⟨by rfl, ?_⟩) hS ?_
          rotate_left
          · (intro w hSw; (try dsimp only at hSw); go_simp; first | done | with_reducible rfl)
          simp only [List.setIfInBounds_toArray, List.set_cons_zero, List.set_cons_succ]
          refine wpT (i := 3) (v := ?_) rfl rfl (by kernel_rfl) (by kernel_rfl) (by kernel_rfl) (fun _ _ _ h => h) (Or.inl ⟨by rfl, ?_⟩) hS ?_
          rotate_left
          · (intro w hSw; (try dsimp only at hSw); go_simp; first | done | with_reducible rfl)
          simp only [List.setIfInBounds_toArray, List.set_cons_zero, List.set_cons_succ]
          refine wpT (i := 4) (v := ?_) rfl rfl (by kernel_rfl) (by kernel_rfl) (by kernel_rfl) (fun _ _ _ h => h) (Or.inl ⟨by rfl, ?_⟩) hS ?_
          rotate_left
          · (intro w hSw; (try dsimp only at hSw); go_simp; first | done | with_reducible rfl)
          simp only [List.setIfInBounds_toArray, List.set_cons_zero, List.set_cons_succ]
          refine wpAnyH_ready (rs := [5]) (by kernel_rfl) (by simp) ?_
          refine AllReadyH.cons rfl (fun K hK => ?_) AllReadyH.nil
          go_simp
          (go_at_call 59; refine (l1In_b _ _ _ _ _ HX.out).mono ?_; rintro e w1 ⟨rfl, hb1⟩)
          try go_wp2_with fail
          refine hK.out _ _ ?_ (fun hS2 => ?_)
          · (clear hK K; ((go_split_ands; (try dsimp only); (repeat' (with_reducible apply And.intro)) <;> (repeat (first | with_reducible assumption | with_reducible apply keep_alloc | with_reducible apply keep_drew | with_reducible refine keep_below hb1 ?_ | ((with_reducible refine keep_set ?_ ?_); rotate_left; (simp <;> omega)))))))
          clear hS hK K
          have hS := hS2
          clear hS2
          refine wpT (i := 6) (v := ?_) rfl rfl (by kernel_rfl) (by kernel_rfl) (by kernel_rfl) (fun _ _ _ h => h) (Or.inl ⟨by rfl, ?_⟩) hS ?_
          rotate_left
          · (intro w hSw; (try dsimp only at hSw); go_simp; first | done | with_reducible rfl)
          simp only [List.setIfInBounds_toArray, List.set_cons_zero, List.set_cons_succ]
          refine wpT (i := 7) (v := ?_) rfl rfl (by kernel_rfl) (by kernel_rfl) (by kernel_rfl) (fun _ _ _ h => h) (Or.inl ⟨by rfl, ?_⟩) hS ?_
          rotate_left
          · (intro w hSw; (try dsimp only at hSw); go_simp; first | done | with_reducible rfl)
          simp only [List.setIfInBounds_toArray, List.set_cons_zero, List.set_cons_succ]
          refine wpT (i := 8) (v := undef) rfl rfl (by kernel_rfl) (by kernel_rfl) (by kernel_rfl) (fun _ _ _ h => h) (Or.inr ⟨by rfl, rfl⟩) hS ?_
          simp only [List.setIfInBounds_toArray, List.set_cons_zero, List.set_cons_succ]
          refine wpT (i := 9) (v := undef) rfl rfl (by kernel_rfl) (by kernel_rfl) (by kernel_rfl) (fun _ _ _ h => h) (Or.inr ⟨by rfl, rfl⟩) hS ?_
          simp only [List.setIfInBounds_toArray, List.set_cons_zero, List.set_cons_succ]
          refine wpT (i := 10) (v := undef) rfl rfl (by kernel_rfl) (by kernel_rfl) (by kernel_rfl) (fun _ _ _ h => h) (Or.inr ⟨by rfl, rfl⟩) hS ?_
          simp only [List.setIfInBounds_toArray, List.set_cons_zero, List.set_cons_succ]
          refine wpT (i := 11) (v := undef) rfl rfl (by kernel_rfl) (by kernel_rfl) (by kernel_rfl) (fun _ _ _ h => h) (Or.inr ⟨by rfl, rfl⟩) hS ?_
          simp only [List.setIfInBounds_toArray, List.set_cons_zero, List.set_cons_succ]
          refine wpT (i := 12) (v := undef) rfl rfl (by kernel_rfl) (by kernel_rfl) (by kernel_rfl) (fun _ _ _ h => h) (Or.inr ⟨by rfl, rfl⟩) hS ?_
          simp only [List.setIfInBounds_toArray, List.set_cons_zero, List.set_cons_succ]
          refine wpT (i := 13) (v := undef) rfl rfl (by kernel_rfl) (by kernel_rfl) (by kernel_rfl) (fun _ _ _ h => h) (Or.inr ⟨by rfl, rfl⟩) hS ?_
          simp only [List.setIfInBounds_toArray, List.set_cons_zero, List.set_cons_succ]
          refine wpT (i := 14) (v := undef) rfl rfl (by kernel_rfl) (by kernel_rfl) (by kernel_rfl) (fun _ _ _ h => h) (Or.inr ⟨by rfl, rfl⟩) hS ?_
          simp only [List.setIfInBounds_toArray, List.set_cons_zero, List.set_cons_succ]
          refine wpT (i := 15) (v := ?_) rfl rfl (by kernel_rfl) (by kernel_rfl) (by kernel_rfl) (fun _ _ _ h => h) (Or.inl ⟨by rfl, ?_⟩) hS ?_
          rotate_left
          · (intro w hSw; (try dsimp only at hSw); go_simp; first | done | with_reducible rfl)
          simp only [List.setIfInBounds_toArray, List.set_cons_zero, List.set_cons_succ]
          refine wpT (i := 16) (v := ?_) rfl rfl (by kernel_rfl) (by kernel_rfl) (by kernel_rfl) (fun _ _ _ h => h) (Or.inl ⟨by rfl, ?_⟩) hS ?_
          rotate_left
          · (intro w hSw; (try dsimp only at hSw); go_simp; first | done | with_reducible rfl)
          simp only [List.setIfInBounds_toArray, List.set_cons_zero, List.set_cons_succ]
          refine wpT (i := 17) (v := undef) rfl rfl (by kernel_rfl) (by kernel_rfl) (by kernel_rfl) (fun _ _ _ h => h) (Or.inr ⟨by rfl, rfl⟩) hS ?_
          simp only [List.setIfInBounds_toArray, List.set_cons_zero, List.set_cons_succ]
          refine wpT (i := 18) (v := undef) rfl rfl (by kernel_rfl) (by kernel_rfl) (by kernel_rfl) (fun _ _ _ h => h) (Or.inr ⟨by rfl, rfl⟩) hS ?_
          simp only [List.setIfInBounds_toArray, List.set_cons_zero, List.set_cons_succ]
          refine wpT (i := 19) (v := undef) rfl rfl (by kernel_rfl) (by kernel_rfl) (by kernel_rfl) (fun _ _ _ h => h) (Or.inr ⟨by rfl, rfl⟩) hS ?_
          simp only [List.setIfInBounds_toArray, List.set_cons_zero, List.set_cons_succ]
          refine wpT (i := 20) (v := undef) rfl rfl (by kernel_rfl) (by kernel_rfl) (by kernel_rfl) (fun _ _ _ h => h) (Or.inr ⟨by rfl, rfl⟩) hS ?_
          simp only [List.setIfInBounds_toArray, List.set_cons_zero, List.set_cons_succ]
          refine wpT (i := 21) (v := undef) rfl rfl (by kernel_rfl) (by kernel_rfl) (by kernel_rfl) (fun _ _ _ h => h) (Or.inr ⟨by rfl, rfl⟩) hS ?_
          simp only [List.setIfInBounds_toArray, List.set_cons_zero, List.set_cons_succ]
          refine wpT (i := 22) (v := undef) rfl rfl (by kernel_rfl) (by kernel_rfl) (by kernel_rfl) (fun _ _ _ h => h) (Or.inr ⟨by rfl, rfl⟩) hS ?_
          simp only [List.setIfInBounds_toArray, List.set_cons_zero, List.set_cons_succ]
          refine wpT (i := 23) (v := undef) rfl rfl (by kernel_rfl) (by kernel_rfl) (by kernel_rfl) (fun _ _ _ h => h) (Or.inr ⟨by rfl, rfl⟩) hS ?_
          simp only [List.setIfInBounds_toArray, List.set_cons_zero, List.set_cons_succ]
          refine wpT (i := 24) (v := undef) rfl rfl (by kernel_rfl) (by kernel_rfl) (by kernel_rfl) (fun _ _ _ h => h) (Or.inr ⟨by rfl, rfl⟩) hS ?_
          simp only [List.setIfInBounds_toArray, List.set_cons_zero, List.set_cons_succ]
          refine wpT (i := 25) (v := undef) rfl rfl (by kernel_rfl) (by kernel_rfl) (by kernel_rfl) (fun _ _ _ h => h) (Or.inr ⟨by rfl, rfl⟩) hS ?_
          simp only [List.setIfInBounds_toArray, List.set_cons_zero, List.set_cons_succ]
          refine wpT (i := 26) (v := undef) rfl rfl (by kernel_rfl) (by kernel_rfl) (by kernel_rfl) (fun _ _ _ h => h) (Or.inr ⟨by rfl, rfl⟩) hS ?_
          simp only [List.setIfInBounds_toArray, List.set_cons_zero, List.set_cons_succ]
          refine wpT (i := 27) (v := undef) rfl rfl (by kernel_rfl) (by kernel_rfl) (by kernel_rfl) (fun _ _ _ h => h) (Or.inr ⟨by rfl, rfl⟩) hS ?_
          simp only [List.setIfInBounds_toArray, List.set_cons_zero, List.set_cons_succ]
          refine wpT (i := 28) (v := undef) rfl rfl (by kernel_rfl) (by kernel_rfl) (by kernel_rfl) (fun _ _ _ h => h) (Or.inr ⟨by rfl, rfl⟩) hS ?_
          simp only [List.setIfInBounds_toArray, List.set_cons_zero, List.set_cons_succ]
          refine wpT (i := 29) (v := undef) rfl rfl (by kernel_rfl) (by kernel_rfl) (by kernel_rfl) (fun _ _ _ h => h) (Or.inr ⟨by rfl, rfl⟩) hS ?_
          simp only [List.setIfInBounds_toArray, List.set_cons_zero, List.set_cons_succ]
          refine wpT (i := 30) (v := undef) rfl rfl (by kernel_rfl) (by kernel_rfl) (by kernel_rfl) (fun _ _ _ h => h) (Or.inr ⟨by rfl, rfl⟩) hS ?_
          simp only [List.setIfInBounds_toArray, List.set_cons_zero, List.set_cons_succ]
          refine wpT (i := 31) (v := undef) rfl rfl (by kernel_rfl) (by kernel_rfl) (by kernel_rfl) (fun _ _ _ h => h) (Or.inr ⟨by rfl, rfl⟩) hS ?_
          simp only [List.setIfInBounds_toArray, List.set_cons_zero, List.set_cons_succ]
          refine wpT (i := 32) (v := ?_) rfl rfl (by kernel_rfl) (by kernel_rfl) (by kernel_rfl) (fun _ _ _ h => h) (Or.inl ⟨by rfl, ?_⟩) hS ?_
          rotate_left
          · (intro w hSw; (try dsimp only at hSw); go_simp; first | done | with_reducible rfl)
          simp only [List.setIfInBounds_toArray, List.set_cons_zero, List.set_cons_succ]
          refine wpAnyH_done (by kernel_rfl) ?_ _
          refine NoPanic.normal ?_
          go_wp2_with fail
          go_meet
          exact ⟨by rw [HV.out]; rfl, (by (repeat (first | with_reducible exact Below.refl _ _ | with_reducible assumption | with_reducible apply bel_alloc | with_reducible apply bel_drew | with_reducible apply bel_drewN | ((with_reducible refine bel_set ?_ ?_); rotate_left; (simp <;> omega)) | (with_reducible refine bel_trans ?_ (by with_reducible assumption)))))⟩
        | true =>
          cases hby : (decide (0 ≤ y) && decide (y ≤ 7)) with
          | false =>
            have HV : Hid (shapeAt xs k (x, y) = false) := by unfold Hid shapeAt; rw [onB_split, hbx, hby]; rfl
            have HX := Lib.hid hbx.symm
            have HY := Lib.hid hby.symm
            clear hbx hby
            refine wp_region_noPanic ?_
            refine wp_region_held_drew (S := (fun w' => w'.cell? ⟨g, off + k * 2, none⟩ = some (.int .i64 x) ∧ w'.cell? ⟨g, off + k * 2 + 1, none⟩ = some (.int .i64 y))) (by kernel_rfl) ?_ (fun hS => ?_)
            · ((go_split_ands; (try dsimp only); (repeat' (with_reducible apply And.intro)) <;> (repeat (first | with_reducible assumption | with_reducible apply keep_alloc | with_reducible apply keep_drew | with_reducible refine keep_below hb1 ?_ | ((with_reducible refine keep_set ?_ ?_); rotate_left; (simp <;> omega))))))
            refine wpT (i := 0) (v := ?_) rfl rfl (by kernel_rfl) (by kernel_rfl) (by kernel_rfl) (fun _ _ _ h => h) (Or.inl ⟨by rfl, ?_⟩) hS ?_
            rotate_left
            · (intro w hSw; (try dsimp only at hSw); go_simp; first | done | with_reducible rfl)
            simp only [List.setIfInBounds_toArray, List.set_cons_zero, List.set_cons_succ]
            refine wpT (i := 1) (v := ?_) rfl rfl (by kernel_rfl) (by kernel_rfl) (by kernel_rfl) (fun _ _ _ h => h) (Or.inl ⟨by rfl, ?_⟩) hS ?_
            rotate_left
            · (intro w hSw; (try dsimp only at hSw); go_simp; first | done | with_reducible rfl)
            simp only [List.setIfInBounds_toArray, List.set_cons_zero, List.set_cons_succ]
            refine wpT (i := 2) (v := ?_) rfl rfl (by kernel_rfl) (by kernel_rfl) (by kernel_rfl) (fun _ _ _ h => h) (Or.inl ⟨by rfl, ?_⟩) hS ?_
            rotate_left
            · (intro w hSw; (try dsimp only at hSw); go_simp; first | done | with_reducible rfl)
            simp only [List.setIfInBounds_toArray, List.set_cons_zero, List.set_cons_succ]
            refine wpT (i := 3) (v := ?_) rfl rfl (by kernel_rfl) (by kernel_rfl) (by kernel_rfl) (fun _ _ _ h => h) (Or.inl ⟨by rfl, ?_⟩) hS ?_
            rotate_left
            · (intro w hSw; (try dsimp only at hSw); go_simp; first | done | with_reducible rfl)
            simp only [List.setIfInBounds_toArray, List.set_cons_zero, List.set_cons_succ]
            refine wpT (i := 4) (v := ?_) rfl rfl (by kernel_rfl) (by kernel_rfl) (by kernel_rfl) (fun _ _ _ h => h) (Or.inl ⟨by rfl, ?_⟩) hS ?_
            rotate_left
            · (intro w hSw; (try dsimp only at hSw); go_simp; first | done | with_reducible rfl)
            simp only [List.setIfInBounds_toArray, List.set_cons_zero, List.set_cons_succ]
            refine wpAnyH_ready (rs := [5]) (by kernel_rfl) (by simp) ?_
            refine AllReadyH.cons rfl (fun K hK => ?_) AllReadyH.nil
            go_simp
            (go_at_call 59; refine (l1In_b _ _ _ _ _ HX.out).mono ?_; rintro e w1 ⟨rfl, hb1⟩)
            try go_wp2_with fail
            refine hK.out _ _ ?_ (fun hS2 => ?_)
            · (clear hK K; ((go_split_ands; (try dsimp only); (repeat' (with_reducible apply And.intro)) <;> (repeat (first | with_reducible assumption | with_reducible apply keep_alloc | with_reducible apply keep_drew | with_reducible refine keep_below hb1 ?_ | ((with_reducible refine keep_set ?_ ?_); rotate_left; (simp <;> omega)))))))
            clear hS hK K
            have hS := hS2
            clear hS2
            refine wpT (i := 6) (v := ?_) rfl rfl (by kernel_rfl) (by kernel_rfl) (by kernel_rfl) (fun _ _ _ h => h) (Or.inl ⟨by rfl, ?_⟩) hS ?_
            rotate_left
            · (intro w hSw; (try dsimp only at hSw); go_simp; first | done | with_reducible rfl)
            simp only [List.setIfInBounds_toArray, List.set_cons_zero, List.set_cons_succ]
            refine wpT (i := 7) (v := ?_) rfl rfl (by kernel_rfl) (by kernel_rfl) (by kernel_rfl) (fun _ _ _ h => h) (Or.inl ⟨by rfl, ?_⟩) hS ?_
            rotate_left
            · (intro w hSw; (try dsimp only at hSw); go_simp; first | done | with_reducible rfl)
            simp only [List.setIfInBounds_toArray, List.set_cons_zero, List.set_cons_succ]
            refine wpT (i := 8) (v := ?_) rfl rfl (by kernel_rfl) (by kernel_rfl) (by kernel_rfl) (fun _ _ _ h => h) (Or.inl ⟨by rfl, ?_⟩) hS ?_
            rotate_left
            · (intro w hSw; (try dsimp only at hSw); go_simp; first | done | with_reducible rfl)
            simp only [List.setIfInBounds_toArray, List.set_cons_zero, List.set_cons_succ]
            refine wpT (i := 9) (v := ?_) rfl rfl (by kernel_rfl) (by kernel_rfl) (by kernel_rfl) (fun _ _ _ h => h) (Or.inl ⟨by rfl, ?_⟩) hS ?_
            rotate_left
            · (intro w hSw; (try dsimp only at hSw); go_simp; first | done | with_reducible rfl)
            simp only [List.setIfInBounds_toArray, List.set_cons_zero, List.set_cons_succ]
            refine wpT (i := 10) (v := ?_) rfl rfl (by kernel_rfl) (by kernel_rfl) (by kernel_rfl) (fun _ _ _ h => h) (Or.inl ⟨by rfl, ?_⟩) hS ?_
            rotate_left
            · (intro w hSw; (try dsimp only at hSw); go_simp; first | done | with_reducible rfl)
            simp only [List.setIfInBounds_toArray, List.set_cons_zero, List.set_cons_succ]
            refine wpT (i := 11) (v := ?_) rfl rfl (by kernel_rfl) (by kernel_rfl) (by kernel_rfl) (fun _ _ _ h => h) (Or.inl ⟨by rfl, ?_⟩) hS ?_
            rotate_left
            · (intro w hSw; (try dsimp only at hSw); go_simp; first | done | with_reducible rfl)
            simp only [List.setIfInBounds_toArray, List.set_cons_zero, List.set_cons_succ]
            refine wpT (i := 12) (v := ?_) rfl rfl (by kernel_rfl) (by kernel_rfl) (by kernel_rfl) (fun _ _ _ h => h) (Or.inl ⟨by rfl, ?_⟩) hS ?_
            rotate_left
            · (intro w hSw; (try dsimp only at hSw); go_simp; first | done | with_reducible rfl)
            simp only [List.setIfInBounds_toArray, List.set_cons_zero, List.set_cons_succ]
            refine wpAnyH_ready (rs := [13]) (by kernel_rfl) (by simp) ?_
            refine AllReadyH.cons rfl (fun K hK => ?_) AllReadyH.nil
            go_simp
            (go_at_call 59; refine (l1In_b _ _ _ _ _ HY.out).mono ?_; rintro e w2 ⟨rfl, hb2⟩)
            try go_wp2_with fail
            refine hK.out _ _ ?_ (fun hS2 => ?_)
            · (clear hK K; ((go_split_ands; (try dsimp only); (repeat' (with_reducible apply And.intro)) <;> (repeat (first | with_reducible assumption | with_reducible apply keep_alloc | with_reducible apply keep_drew | with_reducible refine keep_below hb2 ?_ | ((with_reducible refine keep_set ?_ ?_); rotate_left; (simp <;> omega)))))))
            clear hS hK K
            have hS := hS2
            clear hS2
            refine wpT (i := 14) (v := ?_) rfl rfl (by kernel_rfl) (by kernel_rfl) (by kernel_rfl) (fun _ _ _ h => h) (Or.inl ⟨by rfl, ?_⟩) hS ?_
            rotate_left
            · (intro w hSw; (try dsimp only at hSw); go_simp; first | done | with_reducible rfl)
            simp only [List.setIfInBounds_toArray, List.set_cons_zero, List.set_cons_succ]
            refine wpT (i := 15) (v := ?_) rfl rfl (by kernel_rfl) (by kernel_rfl) (by kernel_rfl) (fun _ _ _ h => h) (Or.inl ⟨by rfl, ?_⟩) hS ?_
            rotate_left
            · (intro w hSw; (try dsimp only at hSw); go_simp; first | done | with_reducible rfl)
            simp only [List.setIfInBounds_toArray, List.set_cons_zero, List.set_cons_succ]
            refine wpT (i := 16) (v := ?_) rfl rfl (by kernel_rfl) (by kernel_rfl) (by kernel_rfl) (fun _ _ _ h => h) (Or.inl ⟨by rfl, ?_⟩) hS ?_
            rotate_left
            · (intro w hSw; (try dsimp only at hSw); go_simp; first | done | with_reducible rfl)
            simp only [List.setIfInBounds_toArray, List.set_cons_zero, List.set_cons_succ]
            refine wpT (i := 17) (v := undef) rfl rfl (by kernel_rfl) (by kernel_rfl) (by kernel_rfl) (fun _ _ _ h => h) (Or.inr ⟨by rfl, rfl⟩) hS ?_
            simp only [List.setIfInBounds_toArray, List.set_cons_zero, List.set_cons_succ]
            refine wpT (i := 18) (v := undef) rfl rfl (by kernel_rfl) (by kernel_rfl) (by kernel_rfl) (fun _ _ _ h => h) (Or.inr ⟨by rfl, rfl⟩) hS ?_
            simp only [List.setIfInBounds_toArray, List.set_cons_zero, List.set_cons_succ]
            refine wpT (i := 19) (v := undef) rfl rfl (by kernel_rfl) (by kernel_rfl) (by kernel_rfl) (fun _ _ _ h => h) (Or.inr ⟨by rfl, rfl⟩) hS ?_
            simp only [List.setIfInBounds_toArray, List.set_cons_zero, List.set_cons_succ]
            refine wpT (i := 20) (v := undef) rfl rfl (by kernel_rfl) (by kernel_rfl) (by kernel_rfl) (fun _ _ _ h => h) (Or.inr ⟨by rfl, rfl⟩) hS ?_
            simp only [List.setIfInBounds_toArray, List.set_cons_zero, List.set_cons_succ]
            refine wpT (i := 21) (v := undef) rfl rfl (by kernel_rfl) (by kernel_rfl) (by kernel_rfl) (fun _ _ _ h => h) (Or.inr ⟨by rfl, rfl⟩) hS ?_
            simp only [List.setIfInBounds_toArray, List.set_cons_zero, List.set_cons_succ]
            refine wpT (i := 22) (v := undef) rfl rfl (by kernel_rfl) (by kernel_rfl) (by kernel_rfl) (fun _ _ _ h => h) (Or.inr ⟨by rfl, rfl⟩) hS ?_
            simp only [List.setIfInBounds_toArray, List.set_cons_zero, List.set_cons_succ]
            refine wpT (i := 23) (v := undef) rfl rfl (by kernel_rfl) (by kernel_rfl) (by kernel_rfl) (fun _ _ _ h => h) (Or.inr ⟨by rfl, rfl⟩) hS ?_
            simp only [List.setIfInBounds_toArray, List.set_cons_zero, List.set_cons_succ]
            refine wpT (i := 24) (v := undef) rfl rfl (by kernel_rfl) (by kernel_rfl) (by kernel_rfl) (fun _ _ _ h => h) (Or.inr ⟨by rfl, rfl⟩) hS ?_
            simp only [List.setIfInBounds_toArray, List.set_cons_zero, List.set_cons_succ]
            refine wpT (i := 25) (v := undef) rfl rfl (by kernel_rfl) (by kernel_rfl) (by kernel_rfl) (fun _ _ _ h => h) (Or.inr ⟨by rfl, rfl⟩) hS ?_
            simp only [List.setIfInBounds_toArray, List.set_cons_zero, List.set_cons_succ]
            refine wpT (i := 26) (v := undef) rfl rfl (by kernel_rfl) (by kernel_rfl) (by kernel_rfl) (fun _ _ _ h => h) (Or.inr ⟨by rfl, rfl⟩) hS ?_
            simp only [List.setIfInBounds_toArray, List.set_cons_zero, List.set_cons_succ]
            refine wpT (i := 27) (v := undef) rfl rfl (by kernel_rfl) (by kernel_rfl) (by kernel_rfl) (fun _ _ _ h => h) (Or.inr ⟨by rfl, rfl⟩) hS ?_
            simp only [List.setIfInBounds_toArray, List.set_cons_zero, List.set_cons_succ]
            refine wpT (i := 28) (v := undef) rfl rfl (by kernel_rfl) (by kernel_rfl) (by kernel_rfl) (fun _ _ _ h => h) (Or.inr ⟨by rfl, rfl⟩) hS ?_
            simp only [List.setIfInBounds_toArray, List.set_cons_zero, List.set_cons_succ]
            refine wpT (i := 29) (v := undef) rfl rfl (by kernel_rfl) (by kernel_rfl) (by kernel_rfl) (fun _ _ _ h => h) (Or.inr ⟨by rfl, rfl⟩) hS ?_
            simp only [List.setIfInBounds_toArray, List.set_cons_zero, List.set_cons_succ]
            refine wpT (i := 30) (v := undef) rfl rfl (by kernel_rfl) (by kernel_rfl) (by kernel_rfl) (fun _ _ _ h => h) (Or.inr ⟨by rfl, rfl⟩) hS ?_
            simp only [List.setIfInBounds_toArray, List.set_cons_zero, List.set_cons_succ]
            refine wpT (i := 31) (v := undef) rfl rfl (by kernel_rfl) (by kernel_rfl) (by kernel_rfl) (fun _ _ _ h => h) (Or.inr ⟨by rfl, rfl⟩) hS ?_
            simp only [List.setIfInBounds_toArray, List.set_cons_zero, List.set_cons_succ]
            refine wpT (i := 32) (v := ?_) rfl rfl (by kernel_rfl) (by kernel_rfl) (by kernel_rfl) (fun _ _ _ h => h) (Or.inl ⟨by rfl, ?_⟩) hS ?_
            rotate_left
            · (intro w hSw; (try dsimp only at hSw); go_simp; first | done | with_reducible rfl)
            simp only [List.setIfInBounds_toArray, List.set_cons_zero, List.set_cons_succ]
            refine wpAnyH_done (by kernel_rfl) ?_ _
            refine NoPanic.normal ?_
            go_wp2_with fail
            go_meet
            exact ⟨by rw [HV.out]; rfl, (by (repeat (first | with_reducible exact Below.refl _ _ | with_reducible assumption | with_reducible apply bel_alloc | with_reducible apply bel_drew | with_reducible apply bel_drewN | ((with_reducible refine bel_set ?_ ?_); rotate_left; (simp <;> omega)) | (with_reducible refine bel_trans ?_ (by with_reducible assumption)))))⟩
          | true =>
            have ho : onB (x, y) = true := by rw [onB_split, hbx, hby]; rfl
            have HX := Lib.hid hbx.symm
            have HY := Lib.hid hby.symm
            clear hbx hby
            by_cases hk0 : 0 < k
            · obtain ⟨j, hj⟩ : ∃ j, k = j + 1 := ⟨k - 1, by omega⟩
              have hkj : (k : Int) - 1 = (j : Int) := by omega
              have hj0 : (0 : Int) ≤ (j : Int) := by omega
              have hj1 : (j : Int) < (n : Int) := by omega
              have hjw : IntKind.i64.wrap (j : Int) = (j : Int) := IntWalk.i64_in _ (by omega)
              have hk2 : (0 : Int) < (k : Int) := by omega
              have hjx : j < xs.length := by omega
              have d1 : wr.cell? ⟨g, off + j * 2, none⟩ = some (.int .i64 xs[j].1) := by
                obtain ⟨g', off', e, _, h1, _⟩ := RdC.at_ hrw hjx
                simp only [Option.some.injEq, Addr.mk.injEq, and_true] at e
                obtain ⟨rfl, rfl⟩ := e
                exact h1
              have d2 : wr.cell? ⟨g, off + j * 2 + 1, none⟩ = some (.int .i64 xs[j].2) := by
                obtain ⟨g', off', e, _, _, h1⟩ := RdC.at_ hrw hjx
                simp only [Option.some.injEq, Addr.mk.injEq, and_true] at e
                obtain ⟨rfl, rfl⟩ := e
                exact h1
              obtain ⟨⟨x', y'⟩, hx'⟩ : ∃ p, xs[j] = p := ⟨_, rfl⟩
              rw [hx'] at d1 d2
              have HV : Hid (shapeAt xs k (x, y) = befC (x', y') (x, y)) := by
                unfold Hid shapeAt
                rw [ho, Bool.true_and, show (k == 0) = false from by simp; omega, Bool.false_or, show k - 1 = j from by omega, List.getD_eq_getElem?_getD, List.getElem?_eq_getElem hjx, hx']; rfl
              clear ho hx' hj
              refine wp_region_noPanic ?_
              refine wp_region_held_drew (S := (fun w' => w'.cell? ⟨g, off + k * 2, none⟩ = some (.int .i64 x) ∧ w'.cell? ⟨g, off + k * 2 + 1, none⟩ = some (.int .i64 y) ∧ w'.cell? ⟨g, off + j * 2, none⟩ = some (.int .i64 x') ∧ w'.cell? ⟨g, off + j * 2 + 1, none⟩ = some (.int .i64 y'))) (by kernel_rfl) ?_ (fun hS => ?_)
              · ((go_split_ands; (try dsimp only); (repeat' (with_reducible apply And.intro)) <;> (repeat (first | with_reducible assumption | with_reducible apply keep_alloc | with_reducible apply keep_drew | with_reducible refine keep_below hb1 ?_ | ((with_reducible refine keep_set ?_ ?_); rotate_left; (simp <;> omega))))))
              refine wpT (i := 0) (v := ?_) rfl rfl (by kernel_rfl) (by kernel_rfl) (by kernel_rfl) (fun _ _ _ h => h) (Or.inl ⟨by rfl, ?_⟩) hS ?_
              rotate_left
              · (intro w hSw; (try dsimp only at hSw); go_simp; first | done | with_reducible rfl)
              simp only [List.setIfInBounds_toArray, List.set_cons_zero, List.set_cons_succ]
              refine wpT (i := 1) (v := ?_) rfl rfl (by kernel_rfl) (by kernel_rfl) (by kernel_rfl) (fun _ _ _ h => h) (Or.inl ⟨by rfl, ?_⟩) hS ?_
              rotate_left
              · (intro w hSw; (try dsimp only at hSw); go_simp; first | done | with_reducible rfl)
              simp only [List.setIfInBounds_toArray, List.set_cons_zero, List.set_cons_succ]
              refine wpT (i := 2) (v := ?_) rfl rfl (by kernel_rfl) (by kernel_rfl) (by kernel_rfl) (fun _ _ _ h => h) (Or.inl ⟨by rfl, ?_⟩) hS ?_
              rotate_left
              · (intro w hSw; (try dsimp only at hSw); go_simp; first | done | with_reducible rfl)
              simp only [List.setIfInBounds_toArray, List.set_cons_zero, List.set_cons_succ]
              refine wpT (i := 3) (v := ?_) rfl rfl (by kernel_rfl) (by kernel_rfl) (by kernel_rfl) (fun _ _ _ h => h) (Or.inl ⟨by rfl, ?_⟩) hS ?_
              rotate_left
              · (intro w hSw; (try dsimp only at hSw); go_simp; first | done | with_reducible rfl)
              simp only [List.setIfInBounds_toArray, List.set_cons_zero, List.set_cons_succ]
              refine wpT (i := 4) (v := ?_) rfl rfl (by kernel_rfl) (by kernel_rfl) (by kernel_rfl) (fun _ _ _ h => h) (Or.inl ⟨by rfl, ?_⟩) hS ?_
              rotate_left
              · (intro w hSw; (try dsimp only at hSw); go_simp; first | done | with_reducible rfl)
              simp only [List.setIfInBounds_toArray, List.set_cons_zero, List.set_cons_succ]
              refine wpAnyH_ready (rs := [5]) (by kernel_rfl) (by simp) ?_
              refine AllReadyH.cons rfl (fun K hK => ?_) AllReadyH.nil
              go_simp
              (go_at_call 59; refine (l1In_b _ _ _ _ _ HX.out).mono ?_; rintro e w1 ⟨rfl, hb1⟩)
              try go_wp2_with fail
              refine hK.out _ _ ?_ (fun hS2 => ?_)
              · (clear hK K; ((go_split_ands; (try dsimp only); (repeat' (with_reducible apply And.intro)) <;> (repeat (first | with_reducible assumption | with_reducible apply keep_alloc | with_reducible apply keep_drew | with_reducible refine keep_below hb1 ?_ | ((with_reducible refine keep_set ?_ ?_); rotate_left; (simp <;> omega)))))))
              clear hS hK K
              have hS := hS2
              clear hS2
              refine wpT (i := 6) (v := ?_) rfl rfl (by kernel_rfl) (by kernel_rfl) (by kernel_rfl) (fun _ _ _ h => h) (Or.inl ⟨by rfl, ?_⟩) hS ?_
              rotate_left
              · (intro w hSw; (try dsimp only at hSw); go_simp; first | done | with_reducible rfl)
              simp only [List.setIfInBounds_toArray, List.set_cons_zero, List.set_cons_succ]
              refine wpT (i := 7) (v := ?_) rfl rfl (by kernel_rfl) (by kernel_rfl) (by kernel_rfl) (fun _ _ _ h => h) (Or.inl ⟨by rfl, ?_⟩) hS ?_
              rotate_left
              · (intro w hSw; (try dsimp only at hSw); go_simp; first | done | with_reducible rfl)
              simp only [List.setIfInBounds_toArray, List.set_cons_zero, List.set_cons_succ]
              refine wpT (i := 8) (v := ?_) rfl rfl (by kernel_rfl) (by kernel_rfl) (by kernel_rfl) (fun _ _ _ h => h) (Or.inl ⟨by rfl, ?_⟩) hS ?_
              rotate_left
              · (intro w hSw; (try dsimp only at hSw); go_simp; first | done | with_reducible rfl)
              simp only [List.setIfInBounds_toArray, List.set_cons_zero, List.set_cons_succ]
              refine wpT (i := 9) (v := ?_) rfl rfl (by kernel_rfl) (by kernel_rfl) (by kernel_rfl) (fun _ _ _ h => h) (Or.inl ⟨by rfl, ?_⟩) hS ?_
              rotate_left
              · (intro w hSw; (try dsimp only at hSw); go_simp; first | done | with_reducible rfl)
              simp only [List.setIfInBounds_toArray, List.set_cons_zero, List.set_cons_succ]
              refine wpT (i := 10) (v := ?_) rfl rfl (by kernel_rfl) (by kernel_rfl) (by kernel_rfl) (fun _ _ _ h => h) (Or.inl ⟨by rfl, ?_⟩) hS ?_
              rotate_left
              · (intro w hSw; (try dsimp only at hSw); go_simp; first | done | with_reducible rfl)
              simp only [List.setIfInBounds_toArray, List.set_cons_zero, List.set_cons_succ]
              refine wpT (i := 11) (v := ?_) rfl rfl (by kernel_rfl) (by kernel_rfl) (by kernel_rfl) (fun _ _ _ h => h) (Or.inl ⟨by rfl, ?_⟩) hS ?_
              rotate_left
              · (intro w hSw; (try dsimp only at hSw); go_simp; first | done | with_reducible rfl)
              simp only [List.setIfInBounds_toArray, List.set_cons_zero, List.set_cons_succ]
              refine wpT (i := 12) (v := ?_) rfl rfl (by kernel_rfl) (by kernel_rfl) (by kernel_rfl) (fun _ _ _ h => h) (Or.inl ⟨by rfl, ?_⟩) hS ?_
              rotate_left
              · (intro w hSw; (try dsimp only at hSw); go_simp; first | done | with_reducible rfl)
              simp only [List.setIfInBounds_toArray, List.set_cons_zero, List.set_cons_succ]
              refine wpAnyH_ready (rs := [13]) (by kernel_rfl) (by simp) ?_
              refine AllReadyH.cons rfl (fun K hK => ?_) AllReadyH.nil
              go_simp
              (go_at_call 59; refine (l1In_b _ _ _ _ _ HY.out).mono ?_; rintro e w2 ⟨rfl, hb2⟩)
              try go_wp2_with fail
              refine hK.out _ _ ?_ (fun hS2 => ?_)
              · (clear hK K; ((go_split_ands; (try dsimp only); (repeat' (with_reducible apply And.intro)) <;> (repeat (first | with_reducible assumption | with_reducible apply keep_alloc | with_reducible apply keep_drew | with_reducible refine keep_below hb2 ?_ | ((with_reducible refine keep_set ?_ ?_); rotate_left; (simp <;> omega)))))))
              clear hS hK K
              have hS := hS2
              clear hS2
              refine wpT (i := 14) (v := ?_) rfl rfl (by kernel_rfl) (by kernel_rfl) (by kernel_rfl) (fun _ _ _ h => h) (Or.inl ⟨by rfl, ?_⟩) hS ?_
              rotate_left
              · (intro w hSw; (try dsimp only at hSw); go_simp; first | done | with_reducible rfl)
              simp only [List.setIfInBounds_toArray, List.set_cons_zero, List.set_cons_succ]
              refine wpT (i := 15) (v := ?_) rfl rfl (by kernel_rfl) (by kernel_rfl) (by kernel_rfl) (fun _ _ _ h => h) (Or.inl ⟨by rfl, ?_⟩) hS ?_
              rotate_left
              · (intro w hSw; (try dsimp only at hSw); go_simp; first | done | with_reducible rfl)
              simp only [List.setIfInBounds_toArray, List.set_cons_zero, List.set_cons_succ]
              refine wpT (i := 16) (v := ?_) rfl rfl (by kernel_rfl) (by kernel_rfl) (by kernel_rfl) (fun _ _ _ h => h) (Or.inl ⟨by rfl, ?_⟩) hS ?_
              rotate_left
              · (intro w hSw; (try dsimp only at hSw); go_simp; first | done | with_reducible rfl)
              simp only [List.setIfInBounds_toArray, List.set_cons_zero, List.set_cons_succ]
              refine wpT (i := 17) (v := ?_) rfl rfl (by kernel_rfl) (by kernel_rfl) (by kernel_rfl) (fun _ _ _ h => h) (Or.inl ⟨by rfl, ?_⟩) hS ?_
              rotate_left
              · (intro w hSw; (try dsimp only at hSw); go_simp; first | done | with_reducible rfl)
              simp only [List.setIfInBounds_toArray, List.set_cons_zero, List.set_cons_succ]
              refine wpT (i := 18) (v := ?_) rfl rfl (by kernel_rfl) (by kernel_rfl) (by kernel_rfl) (fun _ _ _ h => h) (Or.inl ⟨by rfl, ?_⟩) hS ?_
              rotate_left
              · (intro w hSw; (try dsimp only at hSw); go_simp; first | done | with_reducible rfl)
              simp only [List.setIfInBounds_toArray, List.set_cons_zero, List.set_cons_succ]
              refine wpT (i := 19) (v := ?_) rfl rfl (by kernel_rfl) (by kernel_rfl) (by kernel_rfl) (fun _ _ _ h => h) (Or.inl ⟨by rfl, ?_⟩) hS ?_
              rotate_left
              · (intro w hSw; (try dsimp only at hSw); go_simp; first | done | with_reducible rfl)
              simp only [List.setIfInBounds_toArray, List.set_cons_zero, List.set_cons_succ]
              refine wpT (i := 20) (v := ?_) rfl rfl (by kernel_rfl) (by kernel_rfl) (by kernel_rfl) (fun _ _ _ h => h) (Or.inl ⟨by rfl, ?_⟩) hS ?_
              rotate_left
              · (intro w hSw; (try dsimp only at hSw); go_simp; first | done | with_reducible rfl)
              simp only [List.setIfInBounds_toArray, List.set_cons_zero, List.set_cons_succ]
              refine wpT (i := 21) (v := ?_) rfl rfl (by kernel_rfl) (by kernel_rfl) (by kernel_rfl) (fun _ _ _ h => h) (Or.inl ⟨by rfl, ?_⟩) hS ?_
              rotate_left
              · (intro w hSw; (try dsimp only at hSw); go_simp; first | done | with_reducible rfl)
              simp only [List.setIfInBounds_toArray, List.set_cons_zero, List.set_cons_succ]
              refine wpT (i := 22) (v := ?_) rfl rfl (by kernel_rfl) (by kernel_rfl) (by kernel_rfl) (fun _ _ _ h => h) (Or.inl ⟨by rfl, ?_⟩) hS ?_
              rotate_left
              · (intro w hSw; (try dsimp only at hSw); go_simp; first | done | with_reducible rfl)
              simp only [List.setIfInBounds_toArray, List.set_cons_zero, List.set_cons_succ]
              refine wpT (i := 23) (v := ?_) rfl rfl (by kernel_rfl) (by kernel_rfl) (by kernel_rfl) (fun _ _ _ h => h) (Or.inl ⟨by rfl, ?_⟩) hS ?_
              rotate_left
              · (intro w hSw; (try dsimp only at hSw); go_simp; first | done | with_reducible rfl)
              simp only [List.setIfInBounds_toArray, List.set_cons_zero, List.set_cons_succ]
              refine wpT (i := 24) (v := ?_) rfl rfl (by kernel_rfl) (by kernel_rfl) (by kernel_rfl) (fun _ _ _ h => h) (Or.inl ⟨by rfl, ?_⟩) hS ?_
              rotate_left
              · (intro w hSw; (try dsimp only at hSw); go_simp; first | done | with_reducible rfl)
              simp only [List.setIfInBounds_toArray, List.set_cons_zero, List.set_cons_succ]
              refine wpT (i := 25) (v := ?_) rfl rfl (by kernel_rfl) (by kernel_rfl) (by kernel_rfl) (fun _ _ _ h => h) (Or.inl ⟨by rfl, ?_⟩) hS ?_
              rotate_left
              · (intro w hSw; (try dsimp only at hSw); go_simp; first | done | with_reducible rfl)
              simp only [List.setIfInBounds_toArray, List.set_cons_zero, List.set_cons_succ]
              refine wpT (i := 26) (v := ?_) rfl rfl (by kernel_rfl) (by kernel_rfl) (by kernel_rfl) (fun _ _ _ h => h) (Or.inl ⟨by rfl, ?_⟩) hS ?_
              rotate_left
              · (intro w hSw; (try dsimp only at hSw); go_simp; first | done | with_reducible rfl)
              simp only [List.setIfInBounds_toArray, List.set_cons_zero, List.set_cons_succ]
              refine wpT (i := 27) (v := ?_) rfl rfl (by kernel_rfl) (by kernel_rfl) (by kernel_rfl) (fun _ _ _ h => h) (Or.inl ⟨by rfl, ?_⟩) hS ?_
              rotate_left
              · (intro w hSw; (try dsimp only at hSw); go_simp; first | done | with_reducible rfl)
              simp only [List.setIfInBounds_toArray, List.set_cons_zero, List.set_cons_succ]
              refine wpT (i := 28) (v := ?_) rfl rfl (by kernel_rfl) (by kernel_rfl) (by kernel_rfl) (fun _ _ _ h => h) (Or.inl ⟨by rfl, ?_⟩) hS ?_
              rotate_left
              · (intro w hSw; (try dsimp only at hSw); go_simp; first | done | with_reducible rfl)
              simp only [List.setIfInBounds_toArray, List.set_cons_zero, List.set_cons_succ]
              refine wpAnyH_ready (rs := [29]) (by kernel_rfl) (by simp) ?_
              refine AllReadyH.cons rfl (fun K hK => ?_) AllReadyH.nil
              go_simp
              (go_at_call 60; refine (l2Before_s _ _ _ _ _).mono ?_; rintro e w3 ⟨rfl, hb3⟩)
              try go_wp2_with fail
              refine hK.out _ _ ?_ (fun hS2 => ?_)
              · (clear hK K; ((go_split_ands; (try dsimp only); (repeat' (with_reducible apply And.intro)) <;> (repeat (first | with_reducible assumption | with_reducible apply keep_alloc | with_reducible apply keep_drew | with_reducible refine keep_below hb3 ?_ | ((with_reducible refine keep_set ?_ ?_); rotate_left; (simp <;> omega)))))))
              clear hS hK K
              have hS := hS2
              clear hS2
              refine wpT (i := 30) (v := ?_) rfl rfl (by kernel_rfl) (by kernel_rfl) (by kernel_rfl) (fun _ _ _ h => h) (Or.inl ⟨by rfl, ?_⟩) hS ?_
              rotate_left
              · (intro w hSw; (try dsimp only at hSw); go_simp; first | done | with_reducible rfl)
              simp only [List.setIfInBounds_toArray, List.set_cons_zero, List.set_cons_succ]
              refine wpT (i := 31) (v := ?_) rfl rfl (by kernel_rfl) (by kernel_rfl) (by kernel_rfl) (fun _ _ _ h => h) (Or.inl ⟨by rfl, ?_⟩) hS ?_
              rotate_left
              · (intro w hSw; (try dsimp only at hSw); go_simp; first | done | with_reducible rfl)
              simp only [List.setIfInBounds_toArray, List.set_cons_zero, List.set_cons_succ]
              refine wpT (i := 32) (v := ?_) rfl rfl (by kernel_rfl) (by kernel_rfl) (by kernel_rfl) (fun _ _ _ h => h) (Or.inl ⟨by rfl, ?_⟩) hS ?_
              rotate_left
              · (intro w hSw; (try dsimp only at hSw); go_simp; first | done | with_reducible rfl)
              simp only [List.setIfInBounds_toArray, List.set_cons_zero, List.set_cons_succ]
              refine wpAnyH_done (by kernel_rfl) ?_ _
              refine NoPanic.normal ?_
              go_wp2_with fail
              go_meet
              exact ⟨by rw [HV.out], (by (repeat (first | with_reducible exact Below.refl _ _ | with_reducible assumption | with_reducible apply bel_alloc | with_reducible apply bel_drew | with_reducible apply bel_drewN | ((with_reducible refine bel_set ?_ ?_); rotate_left; (simp <;> omega)) | (with_reducible refine bel_trans ?_ (by with_reducible assumption)))))⟩
            · have hk3 : k = 0 := by omega
              have HV : Hid (shapeAt xs k (x, y) = true) := by unfold Hid shapeAt; rw [ho, hk3]; rfl
              have hk2 : decide ((0 : Int) < (k : Int)) = false := by simp; omega
              have hk4 : ¬ (0 : Int) < (k : Int) := by omega
              clear ho hk3
              refine wp_region_noPanic ?_
              refine wp_region_held_drew (S := (fun w' => w'.cell? ⟨g, off + k * 2, none⟩ = some (.int .i64 x) ∧ w'.cell? ⟨g, off + k * 2 + 1, none⟩ = some (.int .i64 y))) (by kernel_rfl) ?_ (fun hS => ?_)
              · ((go_split_ands; (try dsimp only); (repeat' (with_reducible apply And.intro)) <;> (repeat (first | with_reducible assumption | with_reducible apply keep_alloc | with_reducible apply keep_drew | with_reducible refine keep_below hb1 ?_ | ((with_reducible refine keep_set ?_ ?_); rotate_left; (simp <;> omega))))))
              refine wpT (i := 0) (v := ?_) rfl rfl (by kernel_rfl) (by kernel_rfl) (by kernel_rfl) (fun _ _ _ h => h) (Or.inl ⟨by rfl, ?_⟩) hS ?_
              rotate_left
              · (intro w hSw; (try dsimp only at hSw); go_simp; first | done | with_reducible rfl)
              simp only [List.setIfInBounds_toArray, List.set_cons_zero, List.set_cons_succ]
              refine wpT (i := 1) (v := ?_) rfl rfl (by kernel_rfl) (by kernel_rfl) (by kernel_rfl) (fun _ _ _ h => h) (Or.inl ⟨by rfl, ?_⟩) hS ?_
              rotate_left
              · (intro w hSw; (try dsimp only at hSw); go_simp; first | done | with_reducible rfl)
              simp only [List.setIfInBounds_toArray, List.set_cons_zero, List.set_cons_succ]
              refine wpT (i := 2) (v := ?_) rfl rfl (by kernel_rfl) (by kernel_rfl) (by kernel_rfl) (fun _ _ _ h => h) (Or.inl ⟨by rfl, ?_⟩) hS ?_
              rotate_left
              · (intro w hSw; (try dsimp only at hSw); go_simp; first | done | with_reducible rfl)
              simp only [List.setIfInBounds_toArray, List.set_cons_zero, List.set_cons_succ]
              refine wpT (i := 3) (v := ?_) rfl rfl (by kernel_rfl) (by kernel_rfl) (by kernel_rfl) (fun _ _ _ h => h) (Or.inl ⟨by rfl, ?_⟩) hS ?_
              rotate_left
              · (intro w hSw; (try dsimp only at hSw); go_simp; first | done | with_reducible rfl)
              simp only [List.setIfInBounds_toArray, List.set_cons_zero, List.set_cons_succ]
              refine wpT (i := 4) (v := ?_) rfl rfl (by kernel_rfl) (by kernel_rfl) (by kernel_rfl) (fun _ _ _ h => h) (Or.inl ⟨by rfl, ?_⟩) hS ?_
              rotate_left
              · (intro w hSw; (try dsimp only at hSw); go_simp; first | done | with_reducible rfl)
              simp only [List.setIfInBounds_toArray, List.set_cons_zero, List.set_cons_succ]
              refine wpAnyH_ready (rs := [5]) (by kernel_rfl) (by simp) ?_
              refine AllReadyH.cons rfl (fun K hK => ?_) AllReadyH.nil
              go_simp
              (go_at_call 59; refine (l1In_b _ _ _ _ _ HX.out).mono ?_; rintro e w1 ⟨rfl, hb1⟩)
              try go_wp2_with fail
              refine hK.out _ _ ?_ (fun hS2 => ?_)
              · (clear hK K; ((go_split_ands; (try dsimp only); (repeat' (with_reducible apply And.intro)) <;> (repeat (first | with_reducible assumption | with_reducible apply keep_alloc | with_reducible apply keep_drew | with_reducible refine keep_below hb1 ?_ | ((with_reducible refine keep_set ?_ ?_); rotate_left; (simp <;> omega)))))))
              clear hS hK K
              have hS := hS2
              clear hS2
              refine wpT (i := 6) (v := ?_) rfl rfl (by kernel_rfl) (by kernel_rfl) (by kernel_rfl) (fun _ _ _ h => h) (Or.inl ⟨by rfl, ?_⟩) hS ?_
              rotate_left
              · (intro w hSw; (try dsimp only at hSw); go_simp; first | done | with_reducible rfl)
              simp only [List.setIfInBounds_toArray, List.set_cons_zero, List.set_cons_succ]
              refine wpT (i := 7) (v := ?_) rfl rfl (by kernel_rfl) (by kernel_rfl) (by kernel_rfl) (fun _ _ _ h => h) (Or.inl ⟨by rfl, ?_⟩) hS ?_
              rotate_left
              · (intro w hSw; (try dsimp only at hSw); go_simp; first | done | with_reducible rfl)
              simp only [List.setIfInBounds_toArray, List.set_cons_zero, List.set_cons_succ]
              refine wpT (i := 8) (v := ?_) rfl rfl (by kernel_rfl) (by kernel_rfl) (by kernel_rfl) (fun _ _ _ h => h) (Or.inl ⟨by rfl, ?_⟩) hS ?_
              rotate_left
              · (intro w hSw; (try dsimp only at hSw); go_simp; first | done | with_reducible rfl)
              simp only [List.setIfInBounds_toArray, List.set_cons_zero, List.set_cons_succ]
              refine wpT (i := 9) (v := ?_) rfl rfl (by kernel_rfl) (by kernel_rfl) (by kernel_rfl) (fun _ _ _ h => h) (Or.inl ⟨by rfl, ?_⟩) hS ?_
              rotate_left
              · (intro w hSw; (try dsimp only at hSw); go_simp; first | done | with_reducible rfl)
              simp only [List.setIfInBounds_toArray, List.set_cons_zero, List.set_cons_succ]
              refine wpT (i := 10) (v := ?_) rfl rfl (by kernel_rfl) (by kernel_rfl) (by kernel_rfl) (fun _ _ _ h => h) (Or.inl ⟨by rfl, ?_⟩) hS ?_
              rotate_left
              · (intro w hSw; (try dsimp only at hSw); go_simp; first | done | with_reducible rfl)
              simp only [List.setIfInBounds_toArray, List.set_cons_zero, List.set_cons_succ]
              refine wpT (i := 11) (v := ?_) rfl rfl (by kernel_rfl) (by kernel_rfl) (by kernel_rfl) (fun _ _ _ h => h) (Or.inl ⟨by rfl, ?_⟩) hS ?_
              rotate_left
              · (intro w hSw; (try dsimp only at hSw); go_simp; first | done | with_reducible rfl)
              simp only [List.setIfInBounds_toArray, List.set_cons_zero, List.set_cons_succ]
              refine wpT (i := 12) (v := ?_) rfl rfl (by kernel_rfl) (by kernel_rfl) (by kernel_rfl) (fun _ _ _ h => h) (Or.inl ⟨by rfl, ?_⟩) hS ?_
              rotate_left
              · (intro w hSw; (try dsimp only at hSw); go_simp; first | done | with_reducible rfl)
              simp only [List.setIfInBounds_toArray, List.set_cons_zero, List.set_cons_succ]
              refine wpAnyH_ready (rs := [13]) (by kernel_rfl) (by simp) ?_
              refine AllReadyH.cons rfl (fun K hK => ?_) AllReadyH.nil
              go_simp
              (go_at_call 59; refine (l1In_b _ _ _ _ _ HY.out).mono ?_; rintro e w2 ⟨rfl, hb2⟩)
              try go_wp2_with fail
              refine hK.out _ _ ?_ (fun hS2 => ?_)
              · (clear hK K; ((go_split_ands; (try dsimp only); (repeat' (with_reducible apply And.intro)) <;> (repeat (first | with_reducible assumption | with_reducible apply keep_alloc | with_reducible apply keep_drew | with_reducible refine keep_below hb2 ?_ | ((with_reducible refine keep_set ?_ ?_); rotate_left; (simp <;> omega)))))))
              clear hS hK K
              have hS := hS2
              clear hS2
              refine wpT (i := 14) (v := ?_) rfl rfl (by kernel_rfl) (by kernel_rfl) (by kernel_rfl) (fun _ _ _ h => h) (Or.inl ⟨by rfl, ?_⟩) hS ?_
              rotate_left
              · (intro w hSw; (try dsimp only at hSw); go_simp; first | done | with_reducible rfl)
              simp only [List.setIfInBounds_toArray, List.set_cons_zero, List.set_cons_succ]
              refine wpT (i := 15) (v := ?_) rfl rfl (by kernel_rfl) (by kernel_rfl) (by kernel_rfl) (fun _ _ _ h => h) (Or.inl ⟨by rfl, ?_⟩) hS ?_
              rotate_left
              · (intro w hSw; (try dsimp only at hSw); go_simp; first | done | with_reducible rfl)
              simp only [List.setIfInBounds_toArray, List.set_cons_zero, List.set_cons_succ]
              refine wpT (i := 16) (v := ?_) rfl rfl (by kernel_rfl) (by kernel_rfl) (by kernel_rfl) (fun _ _ _ h => h) (Or.inl ⟨by rfl, ?_⟩) hS ?_
              rotate_left
              · (intro w hSw; (try dsimp only at hSw); go_simp; first | done | with_reducible rfl)
              simp only [List.setIfInBounds_toArray, List.set_cons_zero, List.set_cons_succ]
              refine wpT (i := 17) (v := ?_) rfl rfl (by kernel_rfl) (by kernel_rfl) (by kernel_rfl) (fun _ _ _ h => h) (Or.inl ⟨by rfl, ?_⟩) hS ?_
              rotate_left
              · (intro w hSw; (try dsimp only at hSw); go_simp; first | done | with_reducible rfl)
              simp only [List.setIfInBounds_toArray, List.set_cons_zero, List.set_cons_succ]
              refine wpT (i := 18) (v := ?_) rfl rfl (by kernel_rfl) (by kernel_rfl) (by kernel_rfl) (fun _ _ _ h => h) (Or.inl ⟨by rfl, ?_⟩) hS ?_
              rotate_left
              · (intro w hSw; (try dsimp only at hSw); go_simp; first | done | with_reducible rfl)
              simp only [List.setIfInBounds_toArray, List.set_cons_zero, List.set_cons_succ]
              refine wpT (i := 19) (v := ?_) rfl rfl (by kernel_rfl) (by kernel_rfl) (by kernel_rfl) (fun _ _ _ h => h) (Or.inl ⟨by rfl, ?_⟩) hS ?_
              rotate_left
              · (intro w hSw; (try dsimp only at hSw); go_simp; first | done | with_reducible rfl)
              simp only [List.setIfInBounds_toArray, List.set_cons_zero, List.set_cons_succ]
              refine wpT (i := 20) (v := undef) rfl rfl (by kernel_rfl) (by kernel_rfl) (by kernel_rfl) (fun _ _ _ h => h) (Or.inr ⟨by rfl, rfl⟩) hS ?_
              simp only [List.setIfInBounds_toArray, List.set_cons_zero, List.set_cons_succ]
              refine wpT (i := 21) (v := undef) rfl rfl (by kernel_rfl) (by kernel_rfl) (by kernel_rfl) (fun _ _ _ h => h) (Or.inr ⟨by rfl, rfl⟩) hS ?_
              simp only [List.setIfInBounds_toArray, List.set_cons_zero, List.set_cons_succ]
              refine wpT (i := 22) (v := undef) rfl rfl (by kernel_rfl) (by kernel_rfl) (by kernel_rfl) (fun _ _ _ h => h) (Or.inr ⟨by rfl, rfl⟩) hS ?_
              simp only [List.setIfInBounds_toArray, List.set_cons_zero, List.set_cons_succ]
              refine wpT (i := 23) (v := undef) rfl rfl (by kernel_rfl) (by kernel_rfl) (by kernel_rfl) (fun _ _ _ h => h) (Or.inr ⟨by rfl, rfl⟩) hS ?_
              simp only [List.setIfInBounds_toArray, List.set_cons_zero, List.set_cons_succ]
              refine wpT (i := 24) (v := undef) rfl rfl (by kernel_rfl) (by kernel_rfl) (by kernel_rfl) (fun _ _ _ h => h) (Or.inr ⟨by rfl, rfl⟩) hS ?_
              simp only [List.setIfInBounds_toArray, List.set_cons_zero, List.set_cons_succ]
              refine wpT (i := 25) (v := undef) rfl rfl (by kernel_rfl) (by kernel_rfl) (by kernel_rfl) (fun _ _ _ h => h) (Or.inr ⟨by rfl, rfl⟩) hS ?_
              simp only [List.setIfInBounds_toArray, List.set_cons_zero, List.set_cons_succ]
              refine wpT (i := 26) (v := undef) rfl rfl (by kernel_rfl) (by kernel_rfl) (by kernel_rfl) (fun _ _ _ h => h) (Or.inr ⟨by rfl, rfl⟩) hS ?_
              simp only [List.setIfInBounds_toArray, List.set_cons_zero, List.set_cons_succ]
              refine wpT (i := 27) (v := undef) rfl rfl (by kernel_rfl) (by kernel_rfl) (by kernel_rfl) (fun _ _ _ h => h) (Or.inr ⟨by rfl, rfl⟩) hS ?_
              simp only [List.setIfInBounds_toArray, List.set_cons_zero, List.set_cons_succ]
              refine wpT (i := 28) (v := undef) rfl rfl (by kernel_rfl) (by kernel_rfl) (by kernel_rfl) (fun _ _ _ h => h) (Or.inr ⟨by rfl, rfl⟩) hS ?_
              simp only [List.setIfInBounds_toArray, List.set_cons_zero, List.set_cons_succ]
              refine wpT (i := 29) (v := undef) rfl rfl (by kernel_rfl) (by kernel_rfl) (by kernel_rfl) (fun _ _ _ h => h) (Or.inr ⟨by rfl, rfl⟩) hS ?_
              simp only [List.setIfInBounds_toArray, List.set_cons_zero, List.set_cons_succ]
              refine wpT (i := 30) (v := undef) rfl rfl (by kernel_rfl) (by kernel_rfl) (by kernel_rfl) (fun _ _ _ h => h) (Or.inr ⟨by rfl, rfl⟩) hS ?_
              simp only [List.setIfInBounds_toArray, List.set_cons_zero, List.set_cons_succ]
              refine wpT (i := 31) (v := ?_) rfl rfl (by kernel_rfl) (by kernel_rfl) (by kernel_rfl) (fun _ _ _ h => h) (Or.inl ⟨by rfl, ?_⟩) hS ?_
              rotate_left
              · (intro w hSw; (try dsimp only at hSw); go_simp; first | done | with_reducible rfl)
              simp only [List.setIfInBounds_toArray, List.set_cons_zero, List.set_cons_succ]
              refine wpT (i := 32) (v := ?_) rfl rfl (by kernel_rfl) (by kernel_rfl) (by kernel_rfl) (fun _ _ _ h => h) (Or.inl ⟨by rfl, ?_⟩) hS ?_
              rotate_left
              · (intro w hSw; (try dsimp only at hSw); go_simp; first | done | with_reducible rfl)
              simp only [List.setIfInBounds_toArray, List.set_cons_zero, List.set_cons_succ]
              refine wpAnyH_done (by kernel_rfl) ?_ _
              refine NoPanic.normal ?_
              go_wp2_with fail
              go_meet
              exact ⟨by rw [HV.out]; rfl, (by (repeat (first | with_reducible exact Below.refl _ _ | with_reducible assumption | with_reducible apply bel_alloc | with_reducible apply bel_drew | with_reducible apply bel_drewN | ((with_reducible refine bel_set ?_ ?_); rotate_left; (simp <;> omega)) | (with_reducible refine bel_trans ?_ (by with_reducible assumption)))))⟩
      case rest =>
        obtain ⟨rfl, hb3⟩ := hcut
        cases hg : shapeAt xs k (x, y) with
        | true =>
          have HN : Hid (shapeTo xs (k + 1) = true) := by show shapeTo xs (k + 1) = true; rw [HS.out, HG.out, hg]; rfl
          clear hg
          go_wp2
          exact ⟨⟨k + 1, by omega, by go_num, HN.out, (by (repeat (first | with_reducible exact Below.refl _ _ | with_reducible assumption | with_reducible apply bel_alloc | with_reducible apply bel_drew | with_reducible apply bel_drewN | ((with_reducible refine bel_set ?_ ?_); rotate_left; (simp <;> omega)) | (with_reducible refine bel_trans ?_ (by with_reducible assumption)))))⟩, by simp [intOf]; omega⟩
        | false =>
          have HN := Lib.hid (HNO.out hg)
          clear hg
          go_wp2
          go_ret
          exact ⟨by rw [HN.out]; rfl, (by (repeat (first | with_reducible exact Below.refl _ _ | with_reducible assumption | with_reducible apply bel_alloc | with_reducible apply bel_drew | with_reducible apply bel_drewN | ((with_reducible refine bel_set ?_ ?_); rotate_left; (simp <;> omega)) | (with_reducible refine bel_trans ?_ (by with_reducible assumption)))))⟩
    · have hkk : k = n := by omega
      subst hkk
      have hv : isShape xs = (decide ((1 : Int) ≤ (k : Int)) && decide ((k : Int) ≤ 8)) := by
        unfold isShape
        rw [HL.out, hgo]
        rw [Bool.true_and]
        congr 1 <;> (rw [decide_eq_decide]; omega)
      have HV := Lib.hid hv
      clear hgo hv
      go_wp2_with (go_at_call 59; refine (l1In_b _ _ _ (isShape xs) _ HV.out).mono ?_; rintro e w1 ⟨rfl, hb1⟩)
      go_ret
      exact ⟨rfl, (by (repeat (first | with_reducible exact Below.refl _ _ | with_reducible assumption | with_reducible apply bel_alloc | with_reducible apply bel_drew | with_reducible apply bel_drewN | ((with_reducible refine bel_set ?_ ?_); rotate_left; (simp <;> omega)) | (with_reducible refine bel_trans ?_ (by with_reducible assumption)))))⟩
end Go.Proofs.YtfnphchcgaebkaaGreat

/- The reference's IsConnectedShape. -/
namespace Go.Proofs.YtfnphchcgaebkaaGreat
open Go.RowKit
set_option linter.unusedVariables false
attribute [local go_sem ↓] Go.wp_at_zero Go.wp_at_succ

set_option maxHeartbeats 1600000 in
theorem IsConnectedShape_s (A : Option Addr) (n c : Nat) (xs : List C) (w : World) (hr : Rd w A (vC xs)) (hl : xs.length = n) (hn : n ≤ 1099511627776) :
    Calls Tryz.prog 72 #[.slice A n c] w (Ret w (.bool (isConn xs))) := by
  have HL := Lib.hid hl
  cases hs : isShape xs with
  | false =>
    have HV : Hid (isConn xs = false) := by show isConn xs = false; unfold isConn; rw [hs]; rfl
    have HS := Lib.hid hs
    clear hs hl
    go_enter Tryz.func72, Tryz.ntmps72
    go_wp2_with (go_at_call 36; refine (IsShape_s _ _ _ xs _ hr HL.out (by omega)).mono ?_; rw [HS.out]; rintro e w1 ⟨rfl, hb1⟩)
    go_ret
    exact ⟨by rw [HV.out]; rfl, (by (repeat (first | with_reducible exact Below.refl _ _ | with_reducible assumption | with_reducible apply bel_alloc | with_reducible apply bel_drew | with_reducible apply bel_drewN | ((with_reducible refine bel_set ?_ ?_); rotate_left; (simp <;> omega)) | (with_reducible refine bel_trans ?_ (by with_reducible assumption)))))⟩
  | true =>
    have HV : Hid (isConn xs = conn xs) := by show isConn xs = conn xs; unfold isConn; rw [hs]; rfl
    have hlen := shape_len hs
    have hsm := shape_small hs
    have hn8 : n ≤ 8 := by omega
    have hn1 : 1 ≤ n := by omega
    have hnp : (0 : Int) < (n : Int) := by omega
    have h0x : 0 < xs.length := by omega
    have hI := Bfs.init xs (by omega)
    have hs0 : xs[0] = s0 xs := by simp [s0, List.getD_eq_getElem?_getD, h0x]
    have HS := Lib.hid hs
    have HSM := Lib.hid hsm
    have HI := Lib.hid hI
    have HS0 := Lib.hid hs0
    clear hs hlen hsm hl hn hI hs0
    go_enter Tryz.func72, Tryz.ntmps72
    go_wp2_with (go_at_call 36; refine (IsShape_s _ _ _ xs _ hr HL.out (by omega)).mono ?_; rw [HS.out]; rintro e w1 ⟨rfl, hb1⟩; obtain ⟨g0, off0, hA0, hg0, z1, z2⟩ := RdC.at_ (hr.below hb1) h0x; rw [HS0.out] at z1 z2; simp only [Nat.zero_mul, Nat.add_zero] at z1 z2; obtain ⟨⟨zx, zy⟩, hz⟩ : ∃ p, s0 xs = p := ⟨_, rfl⟩; rw [hz] at z1 z2; have HZ := Lib.hid hz; clear hz; subst hA0)
    have hbs := hb1.size
    go_loopw [4, 3] (fun l e wr => ∃ (i m cap : Nat) (B : Option Addr) (seen : List C), i ≤ m ∧ l = .int .i64 i ∧ seen.length = m ∧ e = .slice B m cap ∧ Bfs xs seen i 0 ∧ wr.ownsRow w.heap.size 40 2 (.slice B m cap) m (vC seen) ∧ Below w.heap.size w wr) (fun l _ _ => n - (intOf l).toNat)
    case atStart => exact ⟨0, 1, 1, _, [s0 xs], by omega, rfl, rfl, rfl, HI.out, by rw [HZ.out]; exact own_newC _ _ _ _ hbs, (by (repeat (first | with_reducible exact Below.refl _ _ | with_reducible assumption | with_reducible apply bel_alloc | with_reducible apply bel_drew | with_reducible apply bel_drewN | ((with_reducible refine bel_set ?_ ?_); rotate_left; (simp <;> omega)) | (with_reducible refine bel_trans ?_ (by with_reducible assumption)))))⟩
    case round =>
      clear HI HZ hb1 z1 z2 hg0 hbs
      obtain ⟨i, m, cap, B, seen, him, rfl, hm, rfl, hF, hown, hb⟩ := hrel
      have hmn : m ≤ n := by have := hF.len; have := HL.out; omega
      by_cases hlt : i < m
      · have HM := Lib.hid hm
        have HF := Lib.hid hF
        have HO := Lib.hid hown
        clear hm hF hown
        go_wp2
        go_loopw [5, 3] (fun l e wr => ∃ (j m cap : Nat) (B : Option Addr) (seen : List C), j ≤ n ∧ i < m ∧ l = .int .i64 j ∧ seen.length = m ∧ e = .slice B m cap ∧ Bfs xs seen i j ∧ wr.ownsRow w.heap.size 40 2 (.slice B m cap) m (vC seen) ∧ Below w.heap.size w wr) (fun l _ _ => n - (intOf l).toNat)
        case atStart => exact ⟨0, m, cap, B, seen, Nat.zero_le _, hlt, rfl, HM.out, rfl, HF.out, HO.out, hb⟩
        case round =>
          clear HM HF HO hb hmn him hlt
          obtain ⟨j, m, cap, B, seen, hj, him, rfl, hm, rfl, hF, hown, hb⟩ := hrel
          have hmn : m ≤ n := by have := hF.len; have := HL.out; omega
          by_cases hlj : j < n
          · have hix : i < seen.length := by omega
            have hjx : j < xs.length := by rw [HL.out]; omega
            have hrw := hr.below hb
            obtain ⟨g, off, hA, hgw, d1, d2⟩ := RdC.at_ hrw hjx
            simp only [Option.some.injEq, Addr.mk.injEq, and_true] at hA
            obtain ⟨rfl, rfl⟩ := hA
            have hrs := Rd.of_own hown
            obtain ⟨g2, off2, rfl, hgw2, c1, c2⟩ := RdC.at_ hrs hix
            have hne := nearS_eq (HSM.out _ (hF.sub _ (List.getElem_mem hix))) (HSM.out _ (List.getElem_mem hjx))
            have HPU : Hid (near seen[i] xs[j] = true → hasC seen xs[j].1 xs[j].2 = false → Bfs xs (seen ++ [xs[j]]) i (j + 1)) := fun h1 h2 => hF.push hix hjx h1 h2
            have HSK : Hid ((near seen[i] xs[j] && !hasC seen xs[j].1 xs[j].2) = false → Bfs xs seen i (j + 1)) := fun h1 => hF.skip hix hjx fun h2 => by rw [h2] at h1; simpa using h1
            obtain ⟨⟨x, y⟩, hx⟩ : ∃ p, seen[i] = p := ⟨_, rfl⟩
            obtain ⟨⟨x', y'⟩, hx'⟩ : ∃ p, xs[j] = p := ⟨_, rfl⟩
            rw [hx] at c1 c2
            rw [hx'] at d1 d2
            rw [hx, hx'] at hne HPU HSK
            have hi0 : (0 : Int) ≤ (i : Int) := by omega
            have hi1 : (i : Int) < (m : Int) := by omega
            have hi2 : (0 : Int) ≤ (j : Int) := by omega
            have hi3 : (j : Int) < (n : Int) := by omega
            have HM := Lib.hid hm
            have HO := Lib.hid hown
            have HW := Lib.hid hne
            have HRS := Lib.hid hrs
            clear hm hF hown hne hx hx' hrs
            go_upto_region 10 with fail
            go_cut [48] (fun s wx => s = .bool (near (x, y) (x', y') && !hasC seen x' y') ∧ Below wr.heap.size wr wx)
            case first =>
              cases hv : near (x, y) (x', y') with
              | false =>
                rw [hv] at HW
                have HVV := Lib.hid hv
                clear hv
                refine wp_region_noPanic ?_
                refine wp_region_held_drew (S := (fun w' => w'.cell? ⟨g2, off2 + i * 2, none⟩ = some (.int .i64 x) ∧ w'.cell? ⟨g2, off2 + i * 2 + 1, none⟩ = some (.int .i64 y) ∧ w'.cell? ⟨g0, off0 + j * 2, none⟩ = some (.int .i64 x') ∧ w'.cell? ⟨g0, off0 + j * 2 + 1, none⟩ = some (.int .i64 y'))) (by kernel_rfl) ?_ (fun hS => ?_)
                · ((go_split_ands; (try dsimp only); (repeat' (with_reducible apply And.intro)) <;> (repeat (first | with_reducible assumption | with_reducible apply keep_alloc | with_reducible apply keep_drew | with_reducible refine keep_below hb1 ?_ | ((with_reducible refine keep_set ?_ ?_); rotate_left; (simp <;> omega))))))
                refine wpT (i := 0) (v := ?_) rfl rfl (by kernel_rfl) (by kernel_rfl) (by kernel_rfl) (fun _ _ _ h => h) (Or.inl ⟨by rfl, ?_⟩) hS ?_
                rotate_left
                · (intro w hSw; (try dsimp only at hSw); go_simp; first | done | with_reducible rfl)
                simp only [List.setIfInBounds_toArray, List.set_cons_zero, List.set_cons_succ]
                refine wpT (i := 1) (v := ?_) rfl rfl (by kernel_rfl) (by kernel_rfl) (by kernel_rfl) (fun _ _ _ h => h) (Or.inl ⟨by rfl, ?_⟩) hS ?_
                rotate_left
                · (intro w hSw; (try dsimp only at hSw); go_simp; first | done | with_reducible rfl)
                simp only [List.setIfInBounds_toArray, List.set_cons_zero, List.set_cons_succ]
                refine wpT (i := 2) (v := ?_) rfl rfl (by kernel_rfl) (by kernel_rfl) (by kernel_rfl) (fun _ _ _ h => h) (Or.inl ⟨by rfl, ?_⟩) hS ?_
                rotate_left
                · (intro w hSw; (try dsimp only at hSw); go_simp; first | done | with_reducible rfl)
                simp only [List.setIfInBounds_toArray, List.set_cons_zero, List.set_cons_succ]
                refine wpT (i := 3) (v := ?_) rfl rfl (by kernel_rfl) (by kernel_rfl) (by kernel_rfl) (fun _ _ _ h => h) (Or.inl ⟨by rfl, ?_⟩) hS ?_
                rotate_left
                · (intro w hSw; (try dsimp only at hSw); go_simp; first | done | with_reducible rfl)
                simp only [List.setIfInBounds_toArray, List.set_cons_zero, List.set_cons_succ]
                refine wpT (i := 4) (v := ?_) rfl rfl (by kernel_rfl) (by kernel_rfl) (by kernel_rfl) (fun _ _ _ h => h) (Or.inl ⟨by rfl, ?_⟩) hS ?_
                rotate_left
                · (intro w hSw; (try dsimp only at hSw); go_simp; first | done | with_reducible rfl)
                simp only [List.setIfInBounds_toArray, List.set_cons_zero, List.set_cons_succ]
                refine wpT (i := 5) (v := ?_) rfl rfl (by kernel_rfl) (by kernel_rfl) (by kernel_rfl) (fun _ _ _ h => h) (Or.inl ⟨by rfl, ?_⟩) hS ?_
                rotate_left
                · (intro w hSw; (try dsimp only at hSw); go_simp; first | done | with_reducible rfl)
                simp only [List.setIfInBounds_toArray, List.set_cons_zero, List.set_cons_succ]
                refine wpT (i := 6) (v := ?_) rfl rfl (by kernel_rfl) (by kernel_rfl) (by kernel_rfl) (fun _ _ _ h => h) (Or.inl ⟨by rfl, ?_⟩) hS ?_
                rotate_left
                · (intro w hSw; (try dsimp only at hSw); go_simp; first | done | with_reducible rfl)
                simp only [List.setIfInBounds_toArray, List.set_cons_zero, List.set_cons_succ]
                refine wpT (i := 7) (v := ?_) rfl rfl (by kernel_rfl) (by kernel_rfl) (by kernel_rfl) (fun _ _ _ h => h) (Or.inl ⟨by rfl, ?_⟩) hS ?_
                rotate_left
                · (intro w hSw; (try dsimp only at hSw); go_simp; first | done | with_reducible rfl)
                simp only [List.setIfInBounds_toArray, List.set_cons_zero, List.set_cons_succ]
                refine wpAnyH_ready (rs := [8]) (by kernel_rfl) (by simp) ?_
                refine AllReadyH.cons rfl (fun K hK => ?_) AllReadyH.nil
                go_simp
                (go_at_call 43; refine (l2Near_s _ _ _ _ _).mono ?_; rw [HW.out]; rintro e w1 ⟨rfl, hb1⟩)
                try go_wp2_with fail
                refine hK.out _ _ ?_ (fun hS2 => ?_)
                · (clear hK K; ((go_split_ands; (try dsimp only); (repeat' (with_reducible apply And.intro)) <;> (repeat (first | with_reducible assumption | with_reducible apply keep_alloc | with_reducible apply keep_drew | with_reducible refine keep_below hb1 ?_ | ((with_reducible refine keep_set ?_ ?_); rotate_left; (simp <;> omega)))))))
                clear hS hK K
                have hS := hS2
                clear hS2
                refine wpT (i := 9) (v := ?_) rfl rfl (by kernel_rfl) (by kernel_rfl) (by kernel_rfl) (fun _ _ _ h => h) (Or.inl ⟨by rfl, ?_⟩) hS ?_
                rotate_left
                · (intro w hSw; (try dsimp only at hSw); go_simp; first | done | with_reducible rfl)
                simp only [List.setIfInBounds_toArray, List.set_cons_zero, List.set_cons_succ]
                refine wpT (i := 10) (v := undef) rfl rfl (by kernel_rfl) (by kernel_rfl) (by kernel_rfl) (fun _ _ _ h => h) (Or.inr ⟨by rfl, rfl⟩) hS ?_
                simp only [List.setIfInBounds_toArray, List.set_cons_zero, List.set_cons_succ]
                refine wpT (i := 11) (v := undef) rfl rfl (by kernel_rfl) (by kernel_rfl) (by kernel_rfl) (fun _ _ _ h => h) (Or.inr ⟨by rfl, rfl⟩) hS ?_
                simp only [List.setIfInBounds_toArray, List.set_cons_zero, List.set_cons_succ]
                refine wpT (i := 12) (v := undef) rfl rfl (by kernel_rfl) (by kernel_rfl) (by kernel_rfl) (fun _ _ _ h => h) (Or.inr ⟨by rfl, rfl⟩) hS ?_
                simp only [List.setIfInBounds_toArray, List.set_cons_zero, List.set_cons_succ]
                refine wpT (i := 13) (v := undef) rfl rfl (by kernel_rfl) (by kernel_rfl) (by kernel_rfl) (fun _ _ _ h => h) (Or.inr ⟨by rfl, rfl⟩) hS ?_
                simp only [List.setIfInBounds_toArray, List.set_cons_zero, List.set_cons_succ]
                refine wpT (i := 14) (v := undef) rfl rfl (by kernel_rfl) (by kernel_rfl) (by kernel_rfl) (fun _ _ _ h => h) (Or.inr ⟨by rfl, rfl⟩) hS ?_
                simp only [List.setIfInBounds_toArray, List.set_cons_zero, List.set_cons_succ]
                refine wpT (i := 15) (v := undef) rfl rfl (by kernel_rfl) (by kernel_rfl) (by kernel_rfl) (fun _ _ _ h => h) (Or.inr ⟨by rfl, rfl⟩) hS ?_
                simp only [List.setIfInBounds_toArray, List.set_cons_zero, List.set_cons_succ]
                refine wpT (i := 16) (v := undef) rfl rfl (by kernel_rfl) (by kernel_rfl) (by kernel_rfl) (fun _ _ _ h => h) (Or.inr ⟨by rfl, rfl⟩) hS ?_
                simp only [List.setIfInBounds_toArray, List.set_cons_zero, List.set_cons_succ]
                refine wpT (i := 17) (v := undef) rfl rfl (by kernel_rfl) (by kernel_rfl) (by kernel_rfl) (fun _ _ _ h => h) (Or.inr ⟨by rfl, rfl⟩) hS ?_
                simp only [List.setIfInBounds_toArray, List.set_cons_zero, List.set_cons_succ]
                refine wpT (i := 18) (v := undef) rfl rfl (by kernel_rfl) (by kernel_rfl) (by kernel_rfl) (fun _ _ _ h => h) (Or.inr ⟨by rfl, rfl⟩) hS ?_
                simp only [List.setIfInBounds_toArray, List.set_cons_zero, List.set_cons_succ]
                refine wpT (i := 19) (v := undef) rfl rfl (by kernel_rfl) (by kernel_rfl) (by kernel_rfl) (fun _ _ _ h => h) (Or.inr ⟨by rfl, rfl⟩) hS ?_
                simp only [List.setIfInBounds_toArray, List.set_cons_zero, List.set_cons_succ]
                refine wpT (i := 20) (v := undef) rfl rfl (by kernel_rfl) (by kernel_rfl) (by kernel_rfl) (fun _ _ _ h => h) (Or.inr ⟨by rfl, rfl⟩) hS ?_
                simp only [List.setIfInBounds_toArray, List.set_cons_zero, List.set_cons_succ]
                refine wpT (i := 21) (v := undef) rfl rfl (by kernel_rfl) (by kernel_rfl) (by kernel_rfl) (fun _ _ _ h => h) (Or.inr ⟨by rfl, rfl⟩) hS ?_
                simp only [List.setIfInBounds_toArray, List.set_cons_zero, List.set_cons_succ]
                refine wpT (i := 22) (v := undef) rfl rfl (by kernel_rfl) (by kernel_rfl) (by kernel_rfl) (fun _ _ _ h => h) (Or.inr ⟨by rfl, rfl⟩) hS ?_
                simp only [List.setIfInBounds_toArray, List.set_cons_zero, List.set_cons_succ]
                refine wpT (i := 23) (v := ?_) rfl rfl (by kernel_rfl) (by kernel_rfl) (by kernel_rfl) (fun _ _ _ h => h) (Or.inl ⟨by rfl, ?_⟩) hS ?_
                rotate_left
                · (intro w hSw; (try dsimp only at hSw); go_simp; first | done | with_reducible rfl)
                simp only [List.setIfInBounds_toArray, List.set_cons_zero, List.set_cons_succ]
                refine wpAnyH_done (by kernel_rfl) ?_ _
                refine NoPanic.normal ?_
                go_wp2_with fail
                go_meet
                exact ⟨by rw [HVV.out]; rfl, (by (repeat (first | with_reducible exact Below.refl _ _ | with_reducible assumption | with_reducible apply bel_alloc | with_reducible apply bel_drew | with_reducible apply bel_drewN | ((with_reducible refine bel_set ?_ ?_); rotate_left; (simp <;> omega)) | (with_reducible refine bel_trans ?_ (by with_reducible assumption)))))⟩
              | true =>
                rw [hv] at HW
                have HVV := Lib.hid hv
                clear hv
                refine wp_region_noPanic ?_
                refine wp_region_held_drew (S := (fun w' => w'.cell? ⟨g2, off2 + i * 2, none⟩ = some (.int .i64 x) ∧ w'.cell? ⟨g2, off2 + i * 2 + 1, none⟩ = some (.int .i64 y) ∧ w'.cell? ⟨g0, off0 + j * 2, none⟩ = some (.int .i64 x') ∧ w'.cell? ⟨g0, off0 + j * 2 + 1, none⟩ = some (.int .i64 y'))) (by kernel_rfl) ?_ (fun hS => ?_)
                · ((go_split_ands; (try dsimp only); (repeat' (with_reducible apply And.intro)) <;> (repeat (first | with_reducible assumption | with_reducible apply keep_alloc | with_reducible apply keep_drew | with_reducible refine keep_below hb1 ?_ | ((with_reducible refine keep_set ?_ ?_); rotate_left; (simp <;> omega))))))
                refine wpT (i := 0) (v := ?_) rfl rfl (by kernel_rfl) (by kernel_rfl) (by kernel_rfl) (fun _ _ _ h => h) (Or.inl ⟨by rfl, ?_⟩) hS ?_
                rotate_left
                · (intro w hSw; (try dsimp only at hSw); go_simp; first | done | with_reducible rfl)
                simp only [List.setIfInBounds_toArray, List.set_cons_zero, List.set_cons_succ]
                refine wpT (i := 1) (v := ?_) rfl rfl (by kernel_rfl) (by kernel_rfl) (by kernel_rfl) (fun _ _ _ h => h) (Or.inl ⟨by rfl, ?_⟩) hS ?_
                rotate_left
                · (intro w hSw; (try dsimp only at hSw); go_simp; first | done | with_reducible rfl)
                simp only [List.setIfInBounds_toArray, List.set_cons_zero, List.set_cons_succ]
                refine wpT (i := 2) (v := ?_) rfl rfl (by kernel_rfl) (by kernel_rfl) (by kernel_rfl) (fun _ _ _ h => h) (Or.inl ⟨by rfl, ?_⟩) hS ?_
                rotate_left
                · (intro w hSw; (try dsimp only at hSw); go_simp; first | done | with_reducible rfl)
                simp only [List.setIfInBounds_toArray, List.set_cons_zero, List.set_cons_succ]
                refine wpT (i := 3) (v := ?_) rfl rfl (by kernel_rfl) (by kernel_rfl) (by kernel_rfl) (fun _ _ _ h => h) (Or.inl ⟨by rfl, ?_⟩) hS ?_
                rotate_left
                · (intro w hSw; (try dsimp only at hSw); go_simp; first | done | with_reducible rfl)
                simp only [List.setIfInBounds_toArray, List.set_cons_zero, List.set_cons_succ]
                refine wpT (i := 4) (v := ?_) rfl rfl (by kernel_rfl) (by kernel_rfl) (by kernel_rfl) (fun _ _ _ h => h) (Or.inl ⟨by rfl, ?_⟩) hS ?_
                rotate_left
                · (intro w hSw; (try dsimp only at hSw); go_simp; first | done | with_reducible rfl)
                simp only [List.setIfInBounds_toArray, List.set_cons_zero, List.set_cons_succ]
                refine wpT (i := 5) (v := ?_) rfl rfl (by kernel_rfl) (by kernel_rfl) (by kernel_rfl) (fun _ _ _ h => h) (Or.inl ⟨by rfl, ?_⟩) hS ?_
                rotate_left
                · (intro w hSw; (try dsimp only at hSw); go_simp; first | done | with_reducible rfl)
                simp only [List.setIfInBounds_toArray, List.set_cons_zero, List.set_cons_succ]
                refine wpT (i := 6) (v := ?_) rfl rfl (by kernel_rfl) (by kernel_rfl) (by kernel_rfl) (fun _ _ _ h => h) (Or.inl ⟨by rfl, ?_⟩) hS ?_
                rotate_left
                · (intro w hSw; (try dsimp only at hSw); go_simp; first | done | with_reducible rfl)
                simp only [List.setIfInBounds_toArray, List.set_cons_zero, List.set_cons_succ]
                refine wpT (i := 7) (v := ?_) rfl rfl (by kernel_rfl) (by kernel_rfl) (by kernel_rfl) (fun _ _ _ h => h) (Or.inl ⟨by rfl, ?_⟩) hS ?_
                rotate_left
                · (intro w hSw; (try dsimp only at hSw); go_simp; first | done | with_reducible rfl)
                simp only [List.setIfInBounds_toArray, List.set_cons_zero, List.set_cons_succ]
                refine wpAnyH_ready (rs := [8]) (by kernel_rfl) (by simp) ?_
                refine AllReadyH.cons rfl (fun K hK => ?_) AllReadyH.nil
                go_simp
                (go_at_call 43; refine (l2Near_s _ _ _ _ _).mono ?_; rw [HW.out]; rintro e w1 ⟨rfl, hb1⟩)
                try go_wp2_with fail
                refine hK.out _ _ ?_ (fun hS2 => ?_)
                · (clear hK K; ((go_split_ands; (try dsimp only); (repeat' (with_reducible apply And.intro)) <;> (repeat (first | with_reducible assumption | with_reducible apply keep_alloc | with_reducible apply keep_drew | with_reducible refine keep_below hb1 ?_ | ((with_reducible refine keep_set ?_ ?_); rotate_left; (simp <;> omega)))))))
                clear hS hK K
                have hS := hS2
                clear hS2
                refine wpT (i := 9) (v := ?_) rfl rfl (by kernel_rfl) (by kernel_rfl) (by kernel_rfl) (fun _ _ _ h => h) (Or.inl ⟨by rfl, ?_⟩) hS ?_
                rotate_left
                · (intro w hSw; (try dsimp only at hSw); go_simp; first | done | with_reducible rfl)
                simp only [List.setIfInBounds_toArray, List.set_cons_zero, List.set_cons_succ]
                refine wpT (i := 10) (v := ?_) rfl rfl (by kernel_rfl) (by kernel_rfl) (by kernel_rfl) (fun _ _ _ h => h) (Or.inl ⟨by rfl, ?_⟩) hS ?_
                rotate_left
                · (intro w hSw; (try dsimp only at hSw); go_simp; first | done | with_reducible rfl)
                simp only [List.setIfInBounds_toArray, List.set_cons_zero, List.set_cons_succ]
                refine wpT (i := 11) (v := ?_) rfl rfl (by kernel_rfl) (by kernel_rfl) (by kernel_rfl) (fun _ _ _ h => h) (Or.inl ⟨by rfl, ?_⟩) hS ?_
                rotate_left
                · (intro w hSw; (try dsimp only at hSw); go_simp; first | done | with_reducible rfl)
                simp only [List.setIfInBounds_toArray, List.set_cons_zero, List.set_cons_succ]
                refine wpT (i := 12) (v := ?_) rfl rfl (by kernel_rfl) (by kernel_rfl) (by kernel_rfl) (fun _ _ _ h => h) (Or.inl ⟨by rfl, ?_⟩) hS ?_
                rotate_left
                · (intro w hSw; (try dsimp only at hSw); go_simp; first | done | with_reducible rfl)
                simp only [List.setIfInBounds_toArray, List.set_cons_zero, List.set_cons_succ]
                refine wpT (i := 13) (v := ?_) rfl rfl (by kernel_rfl) (by kernel_rfl) (by kernel_rfl) (fun _ _ _ h => h) (Or.inl ⟨by rfl, ?_⟩) hS ?_
                rotate_left
                · (intro w hSw; (try dsimp only at hSw); go_simp; first | done | with_reducible rfl)
                simp only [List.setIfInBounds_toArray, List.set_cons_zero, List.set_cons_succ]
                refine wpT (i := 14) (v := ?_) rfl rfl (by kernel_rfl) (by kernel_rfl) (by kernel_rfl) (fun _ _ _ h => h) (Or.inl ⟨by rfl, ?_⟩) hS ?_
                rotate_left
                · (intro w hSw; (try dsimp only at hSw); go_simp; first | done | with_reducible rfl)
                simp only [List.setIfInBounds_toArray, List.set_cons_zero, List.set_cons_succ]
                refine wpT (i := 15) (v := ?_) rfl rfl (by kernel_rfl) (by kernel_rfl) (by kernel_rfl) (fun _ _ _ h => h) (Or.inl ⟨by rfl, ?_⟩) hS ?_
                rotate_left
                · (intro w hSw; (try dsimp only at hSw); go_simp; first | done | with_reducible rfl)
                simp only [List.setIfInBounds_toArray, List.set_cons_zero, List.set_cons_succ]
                refine wpT (i := 16) (v := ?_) rfl rfl (by kernel_rfl) (by kernel_rfl) (by kernel_rfl) (fun _ _ _ h => h) (Or.inl ⟨by rfl, ?_⟩) hS ?_
                rotate_left
                · (intro w hSw; (try dsimp only at hSw); go_simp; first | done | with_reducible rfl)
                simp only [List.setIfInBounds_toArray, List.set_cons_zero, List.set_cons_succ]
                refine wpT (i := 17) (v := ?_) rfl rfl (by kernel_rfl) (by kernel_rfl) (by kernel_rfl) (fun _ _ _ h => h) (Or.inl ⟨by rfl, ?_⟩) hS ?_
                rotate_left
                · (intro w hSw; (try dsimp only at hSw); go_simp; first | done | with_reducible rfl)
                simp only [List.setIfInBounds_toArray, List.set_cons_zero, List.set_cons_succ]
                refine wpT (i := 18) (v := ?_) rfl rfl (by kernel_rfl) (by kernel_rfl) (by kernel_rfl) (fun _ _ _ h => h) (Or.inl ⟨by rfl, ?_⟩) hS ?_
                rotate_left
                · (intro w hSw; (try dsimp only at hSw); go_simp; first | done | with_reducible rfl)
                simp only [List.setIfInBounds_toArray, List.set_cons_zero, List.set_cons_succ]
                refine wpT (i := 19) (v := ?_) rfl rfl (by kernel_rfl) (by kernel_rfl) (by kernel_rfl) (fun _ _ _ h => h) (Or.inl ⟨by rfl, ?_⟩) hS ?_
                rotate_left
                · (intro w hSw; (try dsimp only at hSw); go_simp; first | done | with_reducible rfl)
                simp only [List.setIfInBounds_toArray, List.set_cons_zero, List.set_cons_succ]
                refine wpT (i := 20) (v := ?_) rfl rfl (by kernel_rfl) (by kernel_rfl) (by kernel_rfl) (fun _ _ _ h => h) (Or.inl ⟨by rfl, ?_⟩) hS ?_
                rotate_left
                · (intro w hSw; (try dsimp only at hSw); go_simp; first | done | with_reducible rfl)
                simp only [List.setIfInBounds_toArray, List.set_cons_zero, List.set_cons_succ]
                refine wpAnyH_ready (rs := [21]) (by kernel_rfl) (by simp) ?_
                refine AllReadyH.cons rfl (fun K hK => ?_) AllReadyH.nil
                go_simp
                (go_at_call 44; refine (HasCell_s _ _ _ seen _ _ _ (HRS.out.drew.below hb1) HM.out (by omega)).mono ?_; rintro e w3 ⟨rfl, hb3⟩)
                try go_wp2_with fail
                refine hK.out _ _ ?_ (fun hS2 => ?_)
                · (clear hK K; ((go_split_ands; (try dsimp only); (repeat' (with_reducible apply And.intro)) <;> (repeat (first | with_reducible assumption | with_reducible apply keep_alloc | with_reducible apply keep_drew | with_reducible refine keep_below hb3 ?_ | ((with_reducible refine keep_set ?_ ?_); rotate_left; (simp <;> omega)))))))
                clear hS hK K
                have hS := hS2
                clear hS2
                refine wpT (i := 22) (v := ?_) rfl rfl (by kernel_rfl) (by kernel_rfl) (by kernel_rfl) (fun _ _ _ h => h) (Or.inl ⟨by rfl, ?_⟩) hS ?_
                rotate_left
                · (intro w hSw; (try dsimp only at hSw); go_simp; first | done | with_reducible rfl)
                simp only [List.setIfInBounds_toArray, List.set_cons_zero, List.set_cons_succ]
                refine wpT (i := 23) (v := ?_) rfl rfl (by kernel_rfl) (by kernel_rfl) (by kernel_rfl) (fun _ _ _ h => h) (Or.inl ⟨by rfl, ?_⟩) hS ?_
                rotate_left
                · (intro w hSw; (try dsimp only at hSw); go_simp; first | done | with_reducible rfl)
                simp only [List.setIfInBounds_toArray, List.set_cons_zero, List.set_cons_succ]
                refine wpAnyH_done (by kernel_rfl) ?_ _
                refine NoPanic.normal ?_
                go_wp2_with fail
                go_meet
                exact ⟨by simp [HVV.out], (by (repeat (first | with_reducible exact Below.refl _ _ | with_reducible assumption | with_reducible apply bel_alloc | with_reducible apply bel_drew | with_reducible apply bel_drewN | ((with_reducible refine bel_set ?_ ?_); rotate_left; (simp <;> omega)) | (with_reducible refine bel_trans ?_ (by with_reducible assumption)))))⟩
            case rest =>
              obtain ⟨rfl, hb3⟩ := hcut
              cases hv : (near (x, y) (x', y') && !hasC seen x' y') with
              | true =>
                simp only [Bool.and_eq_true, Bool.not_eq_true'] at hv
                have HB2 := Lib.hid (HPU.out hv.1 hv.2)
                have e1 := keep_below hb3 d1
                have e2 := keep_below hb3 d2
                have hbw := bel_trans hb hb3
                have HO2 := Lib.hid (own_keep HO.out hb3)
                clear hv c1 c2 d1 d2 HO HRS HPU HSK
                have hbsz := hbw.size
                go_wp2_with ((at_builtin; go_must (refine app_C _ rfl _ _ rfl w.heap.size _ _ _ seen rfl (HO2.out.alloc _) _ _ _ [(x', y')] rfl (rd_newC _ _ _ _) rfl (by omega) (by simp; omega) ?_); intro A' c' w' hown' hg' hat'; have HO3 := Lib.hid hown'; have HBG := Lib.hid (bel_app (bel_alloc hbw _) hg' (fun g' hg1 => ((own_lt HO2.out) g' hg1).1)); clear hown' hg' hat'))
                exact ⟨⟨j + 1, m + 1, c', A', _, by omega, by omega, by go_num, by rw [List.length_append, HM.out]; rfl, rfl, HB2.out, HO3.out, HBG.out⟩, by simp [intOf]; omega⟩
              | false =>
                have HB2 := Lib.hid (HSK.out hv)
                have HO2 := Lib.hid (own_keep HO.out hb3)
                clear hv c1 c2 d1 d2 HO HRS HPU HSK
                go_wp2_with fail
                exact ⟨⟨j + 1, m, cap, _, seen, by omega, by omega, by go_num, HM.out, rfl, HB2.out, HO2.out, (by (repeat (first | with_reducible exact Below.refl _ _ | with_reducible assumption | with_reducible apply bel_alloc | with_reducible apply bel_drew | with_reducible apply bel_drewN | ((with_reducible refine bel_set ?_ ?_); rotate_left; (simp <;> omega)) | (with_reducible refine bel_trans ?_ (by with_reducible assumption)))))⟩, by simp [intOf]; omega⟩
          · have hjn : j = n := by omega
            have HM := Lib.hid hm
            have HF : Hid (Bfs xs seen (i + 1) 0) := hF.row (by rw [HL.out]; omega)
            have HO := Lib.hid hown
            have hj5 : ¬ (j : Int) < (n : Int) := by omega
            clear hjn hm hF hown
            go_wp2
            exact ⟨⟨i + 1, m, cap, B, seen, by omega, by go_num, HM.out, rfl, HF.out, HO.out, (by (repeat (first | with_reducible exact Below.refl _ _ | with_reducible assumption | with_reducible apply bel_alloc | with_reducible apply bel_drew | with_reducible apply bel_drewN | ((with_reducible refine bel_set ?_ ?_); rotate_left; (simp <;> omega)) | (with_reducible refine bel_trans ?_ (by with_reducible assumption)))))⟩, by simp [intOf]; omega⟩
      · have hv := hF.fin (shape_nodup HS.out) (by omega)
        have hv2 : conn xs = ((m : Int) == (n : Int)) := by
          rw [hv, hm, HL.out, Bool.eq_iff_iff, decide_eq_true_eq, beq_iff_eq]; omega
        have HV2 := Lib.hid hv2
        clear hv hv2 hF hm hown
        go_wp2
        go_ret
        exact ⟨by rw [HV.out, HV2.out]; rfl, (by (repeat (first | with_reducible exact Below.refl _ _ | with_reducible assumption | with_reducible apply bel_alloc | with_reducible apply bel_drew | with_reducible apply bel_drewN | ((with_reducible refine bel_set ?_ ?_); rotate_left; (simp <;> omega)) | (with_reducible refine bel_trans ?_ (by with_reducible assumption)))))⟩
end Go.Proofs.YtfnphchcgaebkaaGreat

/- Inner sides: walks. -/
namespace Go.Proofs.YtfnphchcgaebkaaGreat
open Go.RowKit
set_option linter.unusedVariables false
attribute [local go_sem ↓] Go.wp_at_zero Go.wp_at_succ

def innerV (xs : List C) : Nat := if isShape xs then inner xs xs.length else 0
set_option maxHeartbeats 800000 in
theorem InnerSides_i (A : Option Addr) (n c : Nat) (xs : List C) (w : World) (hr : Rd w A (vC xs)) (hl : xs.length = n) (hn : n ≤ 1099511627776) :
    Calls Tryz.prog 52 #[.slice A n c] w (Ret w (.int .i64 (innerV xs : Nat))) := by
  have HL := Lib.hid hl
  cases hs : isShape xs with
  | false =>
    have HV : Hid (innerV xs = 0) := by show innerV xs = 0; unfold innerV; rw [hs]; rfl
    have HS := Lib.hid hs
    clear hs hl
    go_enter Tryz.func52, Tryz.ntmps52
    go_wp2_with (go_at_call 32; refine (IsShape_i _ _ _ xs _ hr HL.out (by omega)).mono ?_; rw [HS.out]; rintro e w1 ⟨rfl, hb1⟩)
    go_ret
    exact ⟨by rw [HV.out]; rfl, (by (repeat (first | with_reducible exact Below.refl _ _ | with_reducible assumption | with_reducible apply bel_alloc | with_reducible apply bel_drew | with_reducible apply bel_drewN | ((with_reducible refine bel_set ?_ ?_); rotate_left; (simp <;> omega)) | (with_reducible refine bel_trans ?_ (by with_reducible assumption)))))⟩
  | true =>
    have HV : Hid (innerV xs = inner xs n) := by show innerV xs = inner xs n; unfold innerV; rw [hs, hl]; rfl
    have hlen := shape_len hs
    have hsm := shape_small hs
    have hn8 : n ≤ 8 := by omega
    have hn1 : 1 ≤ n := by omega
    have HS := Lib.hid hs
    have HSM := Lib.hid hsm
    clear hs hlen hsm hl hn
    go_enter Tryz.func52, Tryz.ntmps52
    go_wp2_with (go_at_call 32; refine (IsShape_i _ _ _ xs _ hr HL.out (by omega)).mono ?_; rw [HS.out]; rintro e w1 ⟨rfl, hb1⟩)
    go_loopw [11, 3] (fun i s wr => ∃ k q : Nat, k ≤ n ∧ i = .int .i64 k ∧ s = .int .i64 q ∧ q = inner xs k ∧ Below w.heap.size w wr) (fun i _ _ => n - (intOf i).toNat)
    case atStart => exact ⟨0, 0, Nat.zero_le _, rfl, rfl, rfl, (by (repeat (first | with_reducible exact Below.refl _ _ | with_reducible assumption | with_reducible apply bel_alloc | with_reducible apply bel_drew | with_reducible apply bel_drewN | ((with_reducible refine bel_set ?_ ?_); rotate_left; (simp <;> omega)) | (with_reducible refine bel_trans ?_ (by with_reducible assumption)))))⟩
    case round =>
      obtain ⟨k, q, hk, rfl, rfl, hq, hb⟩ := hrel
      by_cases hlt : k < n
      · have hkx : k < xs.length := by rw [HL.out]; omega
        have hin : inner xs (k + 1) = inner xs k + (xs.take k).countP fun d => near xs[k] d := by
          simp only [inner]
          rw [List.getD_eq_getElem?_getD, List.getElem?_eq_getElem hkx]; rfl
        have hi0 : (0 : Int) ≤ (k : Int) := by omega
        have hi1 : (k : Int) < (n : Int) := by omega
        have hile := inner_le xs k (by omega)
        have HQ := Lib.hid hq
        have HIN := Lib.hid hin
        have hq64 : q ≤ 64 := by omega
        clear hq hin hile
        go_wp2
        go_loopw [15, 3] (fun i s wr => ∃ j p : Nat, j ≤ k ∧ i = .int .i64 j ∧ s = .int .i64 p ∧ p = q + ((xs.take j).countP fun d => near xs[k] d) ∧ Below w.heap.size w wr) (fun i _ _ => k - (intOf i).toNat)
        case atStart => exact ⟨0, q, Nat.zero_le _, rfl, rfl, rfl, (by (repeat (first | with_reducible exact Below.refl _ _ | with_reducible assumption | with_reducible apply bel_alloc | with_reducible apply bel_drew | with_reducible apply bel_drewN | ((with_reducible refine bel_set ?_ ?_); rotate_left; (simp <;> omega)) | (with_reducible refine bel_trans ?_ (by with_reducible assumption)))))⟩
        case round =>
          clear hb
          obtain ⟨j, p, hj, rfl, rfl, hp, hb⟩ := hrel
          by_cases hlj : j < k
          · have hjx : j < xs.length := by omega
            have hrw := hr.below hb
            obtain ⟨g, off, rfl, hgw, c1, c2⟩ := RdC.at_ hrw hkx
            have d12 : wr.cell? ⟨g, off + j * 2, none⟩ = some (.int .i64 xs[j].1) ∧ wr.cell? ⟨g, off + j * 2 + 1, none⟩ = some (.int .i64 xs[j].2) := by
              obtain ⟨g', off', e, _, h1, h2⟩ := RdC.at_ hrw hjx
              simp only [Option.some.injEq, Addr.mk.injEq, and_true] at e
              obtain ⟨rfl, rfl⟩ := e
              exact ⟨h1, h2⟩
            obtain ⟨d1, d2⟩ := d12
            have ht := countP_take (fun d => near xs[k] d) xs j hjx
            have hne := nearI_eq (HSM.out _ (List.getElem_mem hkx)) (HSM.out _ (List.getElem_mem hjx))
            have hpb : ((xs.take j).countP fun d => near xs[k] d) ≤ j := Nat.le_trans (countP_le' _ _) (by rw [List.length_take]; omega)
            have hp2 : p ≤ 80 := by omega
            obtain ⟨⟨x, y⟩, hx⟩ : ∃ p, xs[k] = p := ⟨_, rfl⟩
            obtain ⟨⟨x', y'⟩, hx'⟩ : ∃ p, xs[j] = p := ⟨_, rfl⟩
            rw [hx] at c1 c2
            rw [hx'] at d1 d2
            rw [hx'] at ht
            rw [hx, hx'] at hne
            have hi2 : (0 : Int) ≤ (j : Int) := by omega
            have hi3 : (j : Int) < (n : Int) := by omega
            cases hv : near (x, y) (x', y') with
            | true =>
              have HP : Hid (p + 1 = q + ((xs.take (j + 1)).countP fun d => near xs[k] d)) := by
                unfold Hid
                rw [ht, hx, hv]
                rw [hx] at hp
                simp only [if_true]
                omega
              rw [hv] at hne
              have HW := Lib.hid hne
              clear ht hx hx' hp hpb hne hv
              go_wp2_with fail
              go_region_held3 (fun w' => w'.cell? ⟨g, off + k * 2, none⟩ = some (.int .i64 x) ∧ w'.cell? ⟨g, off + k * 2 + 1, none⟩ = some (.int .i64 y) ∧ w'.cell? ⟨g, off + j * 2, none⟩ = some (.int .i64 x') ∧ w'.cell? ⟨g, off + j * 2 + 1, none⟩ = some (.int .i64 y'))
                ((go_split_ands; (try dsimp only); (repeat' (with_reducible apply And.intro)) <;> (repeat (first | with_reducible assumption | with_reducible apply keep_alloc | with_reducible apply keep_drew | with_reducible refine keep_below hb1 ?_ | ((with_reducible refine keep_set ?_ ?_); rotate_left; (simp <;> omega)))))) (first | (go_at_call 34; refine (beside_i _ _ _ _ _).mono ?_; rw [HW.out]; rintro e w1 ⟨rfl, hb1⟩))
              go_wp2
              exact ⟨⟨j + 1, p + 1, by omega, by go_num, by go_num, HP.out, (by (repeat (first | with_reducible exact Below.refl _ _ | with_reducible assumption | with_reducible apply bel_alloc | with_reducible apply bel_drew | with_reducible apply bel_drewN | ((with_reducible refine bel_set ?_ ?_); rotate_left; (simp <;> omega)) | (with_reducible refine bel_trans ?_ (by with_reducible assumption)))))⟩, by simp [intOf]; omega⟩
            | false =>
              have HP : Hid (p = q + ((xs.take (j + 1)).countP fun d => near xs[k] d)) := by
                unfold Hid
                rw [ht, hx, hv]
                rw [hx] at hp
                simp only [Bool.false_eq_true, if_false]
                omega
              rw [hv] at hne
              have HW := Lib.hid hne
              clear ht hx hx' hp hpb hne hv
              go_wp2_with fail
              go_region_held3 (fun w' => w'.cell? ⟨g, off + k * 2, none⟩ = some (.int .i64 x) ∧ w'.cell? ⟨g, off + k * 2 + 1, none⟩ = some (.int .i64 y) ∧ w'.cell? ⟨g, off + j * 2, none⟩ = some (.int .i64 x') ∧ w'.cell? ⟨g, off + j * 2 + 1, none⟩ = some (.int .i64 y'))
                ((go_split_ands; (try dsimp only); (repeat' (with_reducible apply And.intro)) <;> (repeat (first | with_reducible assumption | with_reducible apply keep_alloc | with_reducible apply keep_drew | with_reducible refine keep_below hb1 ?_ | ((with_reducible refine keep_set ?_ ?_); rotate_left; (simp <;> omega)))))) (first | (go_at_call 34; refine (beside_i _ _ _ _ _).mono ?_; rw [HW.out]; rintro e w1 ⟨rfl, hb1⟩))
              go_wp2
              exact ⟨⟨j + 1, p, by omega, by go_num, rfl, HP.out, (by (repeat (first | with_reducible exact Below.refl _ _ | with_reducible assumption | with_reducible apply bel_alloc | with_reducible apply bel_drew | with_reducible apply bel_drewN | ((with_reducible refine bel_set ?_ ?_); rotate_left; (simp <;> omega)) | (with_reducible refine bel_trans ?_ (by with_reducible assumption)))))⟩, by simp [intOf]; omega⟩
          · have hjk : j = k := by omega
            have HP : Hid (p = inner xs (k + 1)) := by
              unfold Hid
              rw [HIN.out, hp, HQ.out, hjk]
            have hj5 : ¬ (j : Int) < (k : Int) := by omega
            clear hjk hp
            go_wp2
            exact ⟨⟨k + 1, p, by omega, by go_num, rfl, HP.out, (by (repeat (first | with_reducible exact Below.refl _ _ | with_reducible assumption | with_reducible apply bel_alloc | with_reducible apply bel_drew | with_reducible apply bel_drewN | ((with_reducible refine bel_set ?_ ?_); rotate_left; (simp <;> omega)) | (with_reducible refine bel_trans ?_ (by with_reducible assumption)))))⟩, by simp [intOf]; omega⟩
      · have hkk : k = n := by omega
        subst hkk
        have HQ := Lib.hid hq
        clear hq
        go_wp2
        go_ret
        exact ⟨by rw [HV.out, ← HQ.out]; rfl, (by (repeat (first | with_reducible exact Below.refl _ _ | with_reducible assumption | with_reducible apply bel_alloc | with_reducible apply bel_drew | with_reducible apply bel_drewN | ((with_reducible refine bel_set ?_ ?_); rotate_left; (simp <;> omega)) | (with_reducible refine bel_trans ?_ (by with_reducible assumption)))))⟩
set_option maxHeartbeats 800000 in
theorem InnerSides_s (A : Option Addr) (n c : Nat) (xs : List C) (w : World) (hr : Rd w A (vC xs)) (hl : xs.length = n) (hn : n ≤ 1099511627776) :
    Calls Tryz.prog 73 #[.slice A n c] w (Ret w (.int .i64 (innerV xs : Nat))) := by
  have HL := Lib.hid hl
  cases hs : isShape xs with
  | false =>
    have HV : Hid (innerV xs = 0) := by show innerV xs = 0; unfold innerV; rw [hs]; rfl
    have HS := Lib.hid hs
    clear hs hl
    go_enter Tryz.func73, Tryz.ntmps73
    go_wp2
    go_loopw [4, 3] (fun i s wr => i = .int .i64 0 ∧ s = .int .i64 0 ∧ Below w.heap.size w wr) (fun i _ _ => 1 - (intOf i).toNat)
    case atStart => exact ⟨rfl, rfl, (by (repeat (first | with_reducible exact Below.refl _ _ | with_reducible assumption | with_reducible apply bel_alloc | with_reducible apply bel_drew | with_reducible apply bel_drewN | ((with_reducible refine bel_set ?_ ?_); rotate_left; (simp <;> omega)) | (with_reducible refine bel_trans ?_ (by with_reducible assumption)))))⟩
    case round =>
      obtain ⟨rfl, rfl, hb⟩ := hrel
      go_wp2_with (go_at_call 36; refine (IsShape_s _ _ _ xs _ (hr.below hb) HL.out (by omega)).mono ?_; rw [HS.out]; rintro e w2 ⟨rfl, hb2⟩)
      all_goals
        go_ret
        exact ⟨by rw [HV.out]; rfl, (by (repeat (first | with_reducible exact Below.refl _ _ | with_reducible assumption | with_reducible apply bel_alloc | with_reducible apply bel_drew | with_reducible apply bel_drewN | ((with_reducible refine bel_set ?_ ?_); rotate_left; (simp <;> omega)) | (with_reducible refine bel_trans ?_ (by with_reducible assumption)))))⟩
  | true =>
    have HV : Hid (innerV xs = inner xs n) := by show innerV xs = inner xs n; unfold innerV; rw [hs, hl]; rfl
    have hlen := shape_len hs
    have hsm := shape_small hs
    have hn8 : n ≤ 8 := by omega
    have hn1 : 1 ≤ n := by omega
    have HS := Lib.hid hs
    have HSM := Lib.hid hsm
    clear hs hlen hsm hl hn
    go_enter Tryz.func73, Tryz.ntmps73
    go_wp2
    go_loopw [4, 3] (fun i s wr => ∃ k q : Nat, k ≤ n ∧ i = .int .i64 k ∧ s = .int .i64 q ∧ q = inner xs k ∧ Below w.heap.size w wr) (fun i _ _ => n - (intOf i).toNat)
    case atStart => exact ⟨0, 0, Nat.zero_le _, rfl, rfl, rfl, (by (repeat (first | with_reducible exact Below.refl _ _ | with_reducible assumption | with_reducible apply bel_alloc | with_reducible apply bel_drew | with_reducible apply bel_drewN | ((with_reducible refine bel_set ?_ ?_); rotate_left; (simp <;> omega)) | (with_reducible refine bel_trans ?_ (by with_reducible assumption)))))⟩
    case round =>
      obtain ⟨k, q, hk, rfl, rfl, hq, hb⟩ := hrel
      by_cases hlt : k < n
      · have hkx : k < xs.length := by rw [HL.out]; omega
        have hin : inner xs (k + 1) = inner xs k + (xs.take k).countP fun d => near xs[k] d := by
          simp only [inner]
          rw [List.getD_eq_getElem?_getD, List.getElem?_eq_getElem hkx]; rfl
        have hi0 : (0 : Int) ≤ (k : Int) := by omega
        have hi1 : (k : Int) < (n : Int) := by omega
        have hile := inner_le xs k (by omega)
        have HQ := Lib.hid hq
        have HIN := Lib.hid hin
        have hq64 : q ≤ 64 := by omega
        clear hq hin hile
        go_wp2_with (go_at_call 36; refine (IsShape_s _ _ _ xs _ (hr.below hb) HL.out (by omega)).mono ?_; rw [HS.out]; rintro e w2 ⟨rfl, hb2⟩)
        go_loopw [5, 3] (fun i s wr => ∃ j p : Nat, j ≤ k ∧ i = .int .i64 j ∧ s = .int .i64 p ∧ p = q + ((xs.take j).countP fun d => near xs[k] d) ∧ Below w.heap.size w wr) (fun i _ _ => k - (intOf i).toNat)
        case atStart => exact ⟨0, q, Nat.zero_le _, rfl, rfl, rfl, (by (repeat (first | with_reducible exact Below.refl _ _ | with_reducible assumption | with_reducible apply bel_alloc | with_reducible apply bel_drew | with_reducible apply bel_drewN | ((with_reducible refine bel_set ?_ ?_); rotate_left; (simp <;> omega)) | (with_reducible refine bel_trans ?_ (by with_reducible assumption)))))⟩
        case round =>
          clear hb
          obtain ⟨j, p, hj, rfl, rfl, hp, hb⟩ := hrel
          by_cases hlj : j < k
          · have hjx : j < xs.length := by omega
            have hrw := hr.below hb
            obtain ⟨g, off, rfl, hgw, c1, c2⟩ := RdC.at_ hrw hkx
            have d12 : wr.cell? ⟨g, off + j * 2, none⟩ = some (.int .i64 xs[j].1) ∧ wr.cell? ⟨g, off + j * 2 + 1, none⟩ = some (.int .i64 xs[j].2) := by
              obtain ⟨g', off', e, _, h1, h2⟩ := RdC.at_ hrw hjx
              simp only [Option.some.injEq, Addr.mk.injEq, and_true] at e
              obtain ⟨rfl, rfl⟩ := e
              exact ⟨h1, h2⟩
            obtain ⟨d1, d2⟩ := d12
            have ht := countP_take (fun d => near xs[k] d) xs j hjx
            have hne := nearS_eq (HSM.out _ (List.getElem_mem hkx)) (HSM.out _ (List.getElem_mem hjx))
            have hpb : ((xs.take j).countP fun d => near xs[k] d) ≤ j := Nat.le_trans (countP_le' _ _) (by rw [List.length_take]; omega)
            have hp2 : p ≤ 80 := by omega
            obtain ⟨⟨x, y⟩, hx⟩ : ∃ p, xs[k] = p := ⟨_, rfl⟩
            obtain ⟨⟨x', y'⟩, hx'⟩ : ∃ p, xs[j] = p := ⟨_, rfl⟩
            rw [hx] at c1 c2
            rw [hx'] at d1 d2
            rw [hx'] at ht
            rw [hx, hx'] at hne
            have hi2 : (0 : Int) ≤ (j : Int) := by omega
            have hi3 : (j : Int) < (n : Int) := by omega
            cases hv : near (x, y) (x', y') with
            | true =>
              have HP : Hid (p + 1 = q + ((xs.take (j + 1)).countP fun d => near xs[k] d)) := by
                unfold Hid
                rw [ht, hx, hv]
                rw [hx] at hp
                simp only [if_true]
                omega
              rw [hv] at hne
              have HW := Lib.hid hne
              clear ht hx hx' hp hpb hne hv
              go_wp2_with fail
              go_region_held3 (fun w' => w'.cell? ⟨g, off + k * 2, none⟩ = some (.int .i64 x) ∧ w'.cell? ⟨g, off + k * 2 + 1, none⟩ = some (.int .i64 y) ∧ w'.cell? ⟨g, off + j * 2, none⟩ = some (.int .i64 x') ∧ w'.cell? ⟨g, off + j * 2 + 1, none⟩ = some (.int .i64 y'))
                ((go_split_ands; (try dsimp only); (repeat' (with_reducible apply And.intro)) <;> (repeat (first | with_reducible assumption | with_reducible apply keep_alloc | with_reducible apply keep_drew | with_reducible refine keep_below hb1 ?_ | ((with_reducible refine keep_set ?_ ?_); rotate_left; (simp <;> omega)))))) (first | (go_at_call 43; refine (l2Near_s _ _ _ _ _).mono ?_; rw [HW.out]; rintro e w1 ⟨rfl, hb1⟩))
              go_wp2
              exact ⟨⟨j + 1, p + 1, by omega, by go_num, by go_num, HP.out, (by (repeat (first | with_reducible exact Below.refl _ _ | with_reducible assumption | with_reducible apply bel_alloc | with_reducible apply bel_drew | with_reducible apply bel_drewN | ((with_reducible refine bel_set ?_ ?_); rotate_left; (simp <;> omega)) | (with_reducible refine bel_trans ?_ (by with_reducible assumption)))))⟩, by simp [intOf]; omega⟩
            | false =>
              have HP : Hid (p = q + ((xs.take (j + 1)).countP fun d => near xs[k] d)) := by
                unfold Hid
                rw [ht, hx, hv]
                rw [hx] at hp
                simp only [Bool.false_eq_true, if_false]
                omega
              rw [hv] at hne
              have HW := Lib.hid hne
              clear ht hx hx' hp hpb hne hv
              go_wp2_with fail
              go_region_held3 (fun w' => w'.cell? ⟨g, off + k * 2, none⟩ = some (.int .i64 x) ∧ w'.cell? ⟨g, off + k * 2 + 1, none⟩ = some (.int .i64 y) ∧ w'.cell? ⟨g, off + j * 2, none⟩ = some (.int .i64 x') ∧ w'.cell? ⟨g, off + j * 2 + 1, none⟩ = some (.int .i64 y'))
                ((go_split_ands; (try dsimp only); (repeat' (with_reducible apply And.intro)) <;> (repeat (first | with_reducible assumption | with_reducible apply keep_alloc | with_reducible apply keep_drew | with_reducible refine keep_below hb1 ?_ | ((with_reducible refine keep_set ?_ ?_); rotate_left; (simp <;> omega)))))) (first | (go_at_call 43; refine (l2Near_s _ _ _ _ _).mono ?_; rw [HW.out]; rintro e w1 ⟨rfl, hb1⟩))
              go_wp2
              exact ⟨⟨j + 1, p, by omega, by go_num, rfl, HP.out, (by (repeat (first | with_reducible exact Below.refl _ _ | with_reducible assumption | with_reducible apply bel_alloc | with_reducible apply bel_drew | with_reducible apply bel_drewN | ((with_reducible refine bel_set ?_ ?_); rotate_left; (simp <;> omega)) | (with_reducible refine bel_trans ?_ (by with_reducible assumption)))))⟩, by simp [intOf]; omega⟩
          · have hjk : j = k := by omega
            have HP : Hid (p = inner xs (k + 1)) := by
              unfold Hid
              rw [HIN.out, hp, HQ.out, hjk]
            have hj5 : ¬ (j : Int) < (k : Int) := by omega
            clear hjk hp
            go_wp2
            exact ⟨⟨k + 1, p, by omega, by go_num, rfl, HP.out, (by (repeat (first | with_reducible exact Below.refl _ _ | with_reducible assumption | with_reducible apply bel_alloc | with_reducible apply bel_drew | with_reducible apply bel_drewN | ((with_reducible refine bel_set ?_ ?_); rotate_left; (simp <;> omega)) | (with_reducible refine bel_trans ?_ (by with_reducible assumption)))))⟩, by simp [intOf]; omega⟩
      · have hkk : k = n := by omega
        subst hkk
        have HQ := Lib.hid hq
        clear hq
        go_wp2
        go_ret
        exact ⟨by rw [HV.out, ← HQ.out]; rfl, (by (repeat (first | with_reducible exact Below.refl _ _ | with_reducible assumption | with_reducible apply bel_alloc | with_reducible apply bel_drew | with_reducible apply bel_drewN | ((with_reducible refine bel_set ?_ ?_); rotate_left; (simp <;> omega)) | (with_reducible refine bel_trans ?_ (by with_reducible assumption)))))⟩
end Go.Proofs.YtfnphchcgaebkaaGreat

/- Connected shapes and trees. -/
namespace Go.Proofs.YtfnphchcgaebkaaGreat
open Go.RowKit
set_option linter.unusedVariables false
attribute [local go_sem ↓] Go.wp_at_zero Go.wp_at_succ

theorem IsConnectedShape_i (A : Option Addr) (n c : Nat) (xs : List C) (w : World) (hr : Rd w A (vC xs)) (hl : xs.length = n) (hn : n ≤ 1099511627776) :
    Calls Tryz.prog 51 #[.slice A n c] w (Ret w (.bool (isConn xs))) := by
  have HL := Lib.hid hl
  cases hs : isShape xs with
  | false =>
    have HV : Hid (isConn xs = false) := by show isConn xs = false; unfold isConn; rw [hs]; rfl
    have HS := Lib.hid hs
    clear hs hl
    go_enter Tryz.func51, Tryz.ntmps51
    go_wp2_with (go_at_call 32; refine (IsShape_i _ _ _ xs _ hr HL.out (by omega)).mono ?_; rw [HS.out]; rintro e w1 ⟨rfl, hb1⟩)
    go_ret
    exact ⟨by rw [HV.out]; rfl, (by (repeat (first | with_reducible exact Below.refl _ _ | with_reducible assumption | with_reducible apply bel_alloc | with_reducible apply bel_drew | with_reducible apply bel_drewN | ((with_reducible refine bel_set ?_ ?_); rotate_left; (simp <;> omega)) | (with_reducible refine bel_trans ?_ (by with_reducible assumption)))))⟩
  | true =>
    have HV : Hid (isConn xs = conn xs) := by show isConn xs = conn xs; unfold isConn; rw [hs]; rfl
    have HS := Lib.hid hs
    clear hs hl
    go_enter Tryz.func51, Tryz.ntmps51
    go_wp2_with (first | (go_at_call 32; refine (IsShape_i _ _ _ xs _ hr HL.out (by omega)).mono ?_; rw [HS.out]; rintro e w1 ⟨rfl, hb1⟩) | (go_at_call 69; refine (hangs_i _ _ _ xs _ (hr.below hb1) HL.out HS.out).mono ?_; rintro e w2 ⟨rfl, hb2⟩))
    go_ret
    exact ⟨by rw [HV.out]; rfl, (by (repeat (first | with_reducible exact Below.refl _ _ | with_reducible assumption | with_reducible apply bel_alloc | with_reducible apply bel_drew | with_reducible apply bel_drewN | ((with_reducible refine bel_set ?_ ?_); rotate_left; (simp <;> omega)) | (with_reducible refine bel_trans ?_ (by with_reducible assumption)))))⟩

theorem tree_int (xs : List C) (n : Nat) (hl : xs.length = n) (hs : isShape xs = true) : (((innerV xs : Nat) : Int) == (n : Int) - 1) = (inner xs xs.length == xs.length - 1) := by
  have := shape_len hs
  unfold innerV
  rw [hs, if_pos rfl, Bool.eq_iff_iff, beq_iff_eq, beq_iff_eq]
  omega

theorem IsTreeLike_i (A : Option Addr) (n c : Nat) (xs : List C) (w : World) (hr : Rd w A (vC xs)) (hl : xs.length = n) (hn : n ≤ 1099511627776) :
    Calls Tryz.prog 29 #[.slice A n c] w (Ret w (.bool (isTree xs))) := by
  have HL := Lib.hid hl
  cases hs : isConn xs with
  | false =>
    have HV : Hid (isTree xs = false) := by show isTree xs = false; unfold isTree; rw [hs]; rfl
    have HS := Lib.hid hs
    clear hs hl
    go_enter Tryz.func29, Tryz.ntmps29
    go_wp2_with (go_at_call 51; refine (IsConnectedShape_i _ _ _ xs _ hr HL.out (by omega)).mono ?_; rw [HS.out]; rintro e w1 ⟨rfl, hb1⟩)
    go_ret
    exact ⟨by rw [HV.out]; rfl, (by (repeat (first | with_reducible exact Below.refl _ _ | with_reducible assumption | with_reducible apply bel_alloc | with_reducible apply bel_drew | with_reducible apply bel_drewN | ((with_reducible refine bel_set ?_ ?_); rotate_left; (simp <;> omega)) | (with_reducible refine bel_trans ?_ (by with_reducible assumption)))))⟩
  | true =>
    have hti := tree_int xs n hl (conn_shape hs)
    have hlen := shape_len (conn_shape hs)
    have hn8 : n ≤ 8 := by omega
    have hn1 : (1 : Int) ≤ (n : Int) := by omega
    have HV : Hid (isTree xs = (((innerV xs : Nat) : Int) == (n : Int) - 1)) := by show isTree xs = _; rw [hti]; unfold isTree; rw [hs]; rfl
    have HS := Lib.hid hs
    clear hs hl hti hlen
    go_enter Tryz.func29, Tryz.ntmps29
    go_wp2_with (first | (go_at_call 51; refine (IsConnectedShape_i _ _ _ xs _ hr HL.out (by omega)).mono ?_; rw [HS.out]; rintro e w1 ⟨rfl, hb1⟩) | (go_at_call 52; refine (InnerSides_i _ _ _ xs _ (hr.below hb1) HL.out (by omega)).mono ?_; rintro e w2 ⟨rfl, hb2⟩))
    go_ret
    exact ⟨by rw [HV.out]; rfl, (by (repeat (first | with_reducible exact Below.refl _ _ | with_reducible assumption | with_reducible apply bel_alloc | with_reducible apply bel_drew | with_reducible apply bel_drewN | ((with_reducible refine bel_set ?_ ?_); rotate_left; (simp <;> omega)) | (with_reducible refine bel_trans ?_ (by with_reducible assumption)))))⟩

theorem IsTreeLike_s (A : Option Addr) (n c : Nat) (xs : List C) (w : World) (hr : Rd w A (vC xs)) (hl : xs.length = n) (hn : n ≤ 1099511627776) :
    Calls Tryz.prog 62 #[.slice A n c] w (Ret w (.bool (isTree xs))) := by
  have HL := Lib.hid hl
  cases hs : isConn xs with
  | false =>
    have HV : Hid (isTree xs = false) := by show isTree xs = false; unfold isTree; rw [hs]; rfl
    have HS := Lib.hid hs
    clear hs hl
    go_enter Tryz.func62, Tryz.ntmps62
    go_wp2_with (go_at_call 72; refine (IsConnectedShape_s _ _ _ xs _ hr HL.out (by omega)).mono ?_; rw [HS.out]; rintro e w1 ⟨rfl, hb1⟩)
    go_ret
    exact ⟨by rw [HV.out]; rfl, (by (repeat (first | with_reducible exact Below.refl _ _ | with_reducible assumption | with_reducible apply bel_alloc | with_reducible apply bel_drew | with_reducible apply bel_drewN | ((with_reducible refine bel_set ?_ ?_); rotate_left; (simp <;> omega)) | (with_reducible refine bel_trans ?_ (by with_reducible assumption)))))⟩
  | true =>
    have hti := tree_int xs n hl (conn_shape hs)
    have hlen := shape_len (conn_shape hs)
    have hn8 : n ≤ 8 := by omega
    have hn1 : (1 : Int) ≤ (n : Int) := by omega
    have HV : Hid (isTree xs = (((innerV xs : Nat) : Int) == (n : Int) - 1)) := by show isTree xs = _; rw [hti]; unfold isTree; rw [hs]; rfl
    have HS := Lib.hid hs
    clear hs hl hti hlen
    go_enter Tryz.func62, Tryz.ntmps62
    go_wp2_with (first | (go_at_call 72; refine (IsConnectedShape_s _ _ _ xs _ hr HL.out (by omega)).mono ?_; rw [HS.out]; rintro e w1 ⟨rfl, hb1⟩) | (go_at_call 73; refine (InnerSides_s _ _ _ xs _ (hr.below hb1) HL.out (by omega)).mono ?_; rintro e w2 ⟨rfl, hb2⟩))
    go_ret
    exact ⟨by rw [HV.out]; rfl, (by (repeat (first | with_reducible exact Below.refl _ _ | with_reducible assumption | with_reducible apply bel_alloc | with_reducible apply bel_drew | with_reducible apply bel_drewN | ((with_reducible refine bel_set ?_ ?_); rotate_left; (simp <;> omega)) | (with_reducible refine bel_trans ?_ (by with_reducible assumption)))))⟩
end Go.Proofs.YtfnphchcgaebkaaGreat

/- Neighbours counted: walks. -/
namespace Go.Proofs.YtfnphchcgaebkaaGreat
open Go.RowKit
set_option linter.unusedVariables false
attribute [local go_sem ↓] Go.wp_at_zero Go.wp_at_succ

theorem degree_i (A : Option Addr) (n c : Nat) (xs : List C) (x y : Int) (w : World) (hr : Rd w A (vC xs)) (hl : xs.length = n) (hn : n ≤ 1099511627776) :
    Calls Tryz.prog 28 #[.slice A n c, .agg #[.int .i64 x, .int .i64 y]] w (Ret w (.int .i64 (degI xs (x, y) : Nat))) := by
  have HL := Lib.hid hl
  clear hl
  go_enter Tryz.func28, Tryz.ntmps28
  go_wp2
  go_loopw [10, 5] (fun i s wr => ∃ k q : Nat, k ≤ n ∧ q ≤ k ∧ i = .int .i64 k ∧ s = .int .i64 q ∧ q = degI (xs.take k) (x, y) ∧ Blk wr w.heap.size 40 #[.int .i64 x, .int .i64 y] ∧ Below w.heap.size w wr) (fun i _ _ => n - (intOf i).toNat)
  case atStart => exact ⟨0, 0, Nat.zero_le _, Nat.le_refl _, rfl, rfl, rfl, Blk.new _ _ _, (by (repeat (first | with_reducible exact Below.refl _ _ | with_reducible assumption | with_reducible apply bel_alloc | with_reducible apply bel_drew | with_reducible apply bel_drewN | ((with_reducible refine bel_set ?_ ?_); rotate_left; (simp <;> omega)) | (with_reducible refine bel_trans ?_ (by with_reducible assumption)))))⟩
  case round =>
    obtain ⟨k, q, hk, hqk, rfl, rfl, hq, hB, hb⟩ := hrel
    have b1 : wr.cell? ⟨w.heap.size, 0, none⟩ = some (.int .i64 x) := by simpa using hB.cell 0
    have b2 : wr.cell? ⟨w.heap.size, 1, none⟩ = some (.int .i64 y) := by simpa using hB.cell 1
    have hg := hB.lt
    by_cases hlt : k < n
    · have hkx : k < xs.length := by rw [HL.out]; omega
      obtain ⟨g, off, rfl, hgw, c1, c2⟩ := RdC.at_ (hr.below hb) hkx
      have ht := countP_take (fun d => nearI (x, y) d) xs k hkx
      obtain ⟨⟨a, b⟩, hx⟩ : ∃ p, xs[k] = p := ⟨_, rfl⟩
      rw [hx] at c1 c2 ht
      cases hv : nearI (x, y) (a, b) with
      | true =>
        have HV : Hid (q + 1 = degI (xs.take (k + 1)) (x, y)) := by
          unfold Hid degI at *
          rw [ht, hv, hq]; rfl
        have HW := Lib.hid hv
        clear ht hx hq hv
        go_wp2_with (go_at_call 34; refine (beside_i _ _ _ _ _).mono ?_; rw [HW.out]; rintro e w1 ⟨rfl, hb1⟩)
        exact ⟨⟨k + 1, q + 1, by omega, by omega, by go_num, by go_num, HV.out, (hB.alloc _).below hb1, (by (repeat (first | with_reducible exact Below.refl _ _ | with_reducible assumption | with_reducible apply bel_alloc | with_reducible apply bel_drew | with_reducible apply bel_drewN | ((with_reducible refine bel_set ?_ ?_); rotate_left; (simp <;> omega)) | (with_reducible refine bel_trans ?_ (by with_reducible assumption)))))⟩, by simp [intOf]; omega⟩
      | false =>
        have HV : Hid (q = degI (xs.take (k + 1)) (x, y)) := by
          unfold Hid degI at *
          rw [ht, hv, hq]; rfl
        have HW := Lib.hid hv
        clear ht hx hq hv
        go_wp2_with (go_at_call 34; refine (beside_i _ _ _ _ _).mono ?_; rw [HW.out]; rintro e w1 ⟨rfl, hb1⟩)
        exact ⟨⟨k + 1, q, by omega, by omega, by go_num, rfl, HV.out, (hB.alloc _).below hb1, (by (repeat (first | with_reducible exact Below.refl _ _ | with_reducible assumption | with_reducible apply bel_alloc | with_reducible apply bel_drew | with_reducible apply bel_drewN | ((with_reducible refine bel_set ?_ ?_); rotate_left; (simp <;> omega)) | (with_reducible refine bel_trans ?_ (by with_reducible assumption)))))⟩, by simp [intOf]; omega⟩
    · have hkk : k = n := by omega
      subst hkk
      rw [List.take_of_length_le (by rw [HL.out]; omega)] at hq
      have HV := Lib.hid hq
      clear hq
      go_wp2
      go_ret
      exact ⟨by rw [← HV.out]; rfl, (by (repeat (first | with_reducible exact Below.refl _ _ | with_reducible assumption | with_reducible apply bel_alloc | with_reducible apply bel_drew | with_reducible apply bel_drewN | ((with_reducible refine bel_set ?_ ?_); rotate_left; (simp <;> omega)) | (with_reducible refine bel_trans ?_ (by with_reducible assumption)))))⟩
theorem l26Degree_s (A : Option Addr) (n c : Nat) (xs : List C) (x y : Int) (w : World) (hr : Rd w A (vC xs)) (hl : xs.length = n) (hn : n ≤ 1099511627776) :
    Calls Tryz.prog 46 #[.slice A n c, .agg #[.int .i64 x, .int .i64 y]] w (Ret w (.int .i64 (degS xs (x, y) : Nat))) := by
  have HL := Lib.hid hl
  clear hl
  go_enter Tryz.func46, Tryz.ntmps46
  go_wp2
  go_loopw [6, 5] (fun i s wr => ∃ k q : Nat, k ≤ n ∧ q ≤ k ∧ i = .int .i64 k ∧ s = .int .i64 q ∧ q = degS (xs.take k) (x, y) ∧ Blk wr w.heap.size 40 #[.int .i64 x, .int .i64 y] ∧ Below w.heap.size w wr) (fun i _ _ => n - (intOf i).toNat)
  case atStart => exact ⟨0, 0, Nat.zero_le _, Nat.le_refl _, rfl, rfl, rfl, Blk.new _ _ _, (by (repeat (first | with_reducible exact Below.refl _ _ | with_reducible assumption | with_reducible apply bel_alloc | with_reducible apply bel_drew | with_reducible apply bel_drewN | ((with_reducible refine bel_set ?_ ?_); rotate_left; (simp <;> omega)) | (with_reducible refine bel_trans ?_ (by with_reducible assumption)))))⟩
  case round =>
    obtain ⟨k, q, hk, hqk, rfl, rfl, hq, hB, hb⟩ := hrel
    have b1 : wr.cell? ⟨w.heap.size, 0, none⟩ = some (.int .i64 x) := by simpa using hB.cell 0
    have b2 : wr.cell? ⟨w.heap.size, 1, none⟩ = some (.int .i64 y) := by simpa using hB.cell 1
    have hg := hB.lt
    by_cases hlt : k < n
    · have hkx : k < xs.length := by rw [HL.out]; omega
      obtain ⟨g, off, rfl, hgw, c1, c2⟩ := RdC.at_ (hr.below hb) hkx
      have ht := countP_take (fun d => nearS d (x, y)) xs k hkx
      obtain ⟨⟨a, b⟩, hx⟩ : ∃ p, xs[k] = p := ⟨_, rfl⟩
      rw [hx] at c1 c2 ht
      have hi0 : (0 : Int) ≤ (k : Int) := by omega
      have hi1 : (k : Int) < (n : Int) := by omega
      cases hv : nearS (a, b) (x, y) with
      | true =>
        have HV : Hid (q + 1 = degS (xs.take (k + 1)) (x, y)) := by
          unfold Hid degS at *
          rw [ht, hv, hq]; rfl
        have HW := Lib.hid hv
        clear ht hx hq hv
        go_wp2_with fail
        go_region_held3 (fun w' => w'.cell? ⟨g, off + k * 2, none⟩ = some (.int .i64 a) ∧ w'.cell? ⟨g, off + k * 2 + 1, none⟩ = some (.int .i64 b) ∧ w'.cell? ⟨w.heap.size, 0, none⟩ = some (.int .i64 x) ∧ w'.cell? ⟨w.heap.size, 1, none⟩ = some (.int .i64 y))
          ((go_split_ands; (try dsimp only); (repeat' (with_reducible apply And.intro)) <;> (repeat (first | with_reducible assumption | with_reducible apply keep_alloc | with_reducible apply keep_drew | with_reducible refine keep_below hb1 ?_ | ((with_reducible refine keep_set ?_ ?_); rotate_left; (simp <;> omega)))))) (first | (go_at_call 43; refine (l2Near_s _ _ _ _ _).mono ?_; rw [HW.out]; rintro e w1 ⟨rfl, hb1⟩))
        go_wp2
        exact ⟨⟨k + 1, q + 1, by omega, by omega, by go_num, by go_num, HV.out, hB.drew.below hb1, (by (repeat (first | with_reducible exact Below.refl _ _ | with_reducible assumption | with_reducible apply bel_alloc | with_reducible apply bel_drew | with_reducible apply bel_drewN | ((with_reducible refine bel_set ?_ ?_); rotate_left; (simp <;> omega)) | (with_reducible refine bel_trans ?_ (by with_reducible assumption)))))⟩, by simp [intOf]; omega⟩
      | false =>
        have HV : Hid (q = degS (xs.take (k + 1)) (x, y)) := by
          unfold Hid degS at *
          rw [ht, hv, hq]; rfl
        have HW := Lib.hid hv
        clear ht hx hq hv
        go_wp2_with fail
        go_region_held3 (fun w' => w'.cell? ⟨g, off + k * 2, none⟩ = some (.int .i64 a) ∧ w'.cell? ⟨g, off + k * 2 + 1, none⟩ = some (.int .i64 b) ∧ w'.cell? ⟨w.heap.size, 0, none⟩ = some (.int .i64 x) ∧ w'.cell? ⟨w.heap.size, 1, none⟩ = some (.int .i64 y))
          ((go_split_ands; (try dsimp only); (repeat' (with_reducible apply And.intro)) <;> (repeat (first | with_reducible assumption | with_reducible apply keep_alloc | with_reducible apply keep_drew | with_reducible refine keep_below hb1 ?_ | ((with_reducible refine keep_set ?_ ?_); rotate_left; (simp <;> omega)))))) (first | (go_at_call 43; refine (l2Near_s _ _ _ _ _).mono ?_; rw [HW.out]; rintro e w1 ⟨rfl, hb1⟩))
        go_wp2
        exact ⟨⟨k + 1, q, by omega, by omega, by go_num, rfl, HV.out, hB.drew.below hb1, (by (repeat (first | with_reducible exact Below.refl _ _ | with_reducible assumption | with_reducible apply bel_alloc | with_reducible apply bel_drew | with_reducible apply bel_drewN | ((with_reducible refine bel_set ?_ ?_); rotate_left; (simp <;> omega)) | (with_reducible refine bel_trans ?_ (by with_reducible assumption)))))⟩, by simp [intOf]; omega⟩
    · have hkk : k = n := by omega
      subst hkk
      rw [List.take_of_length_le (by rw [HL.out]; omega)] at hq
      have HV := Lib.hid hq
      clear hq
      go_wp2
      go_ret
      exact ⟨by rw [← HV.out]; rfl, (by (repeat (first | with_reducible exact Below.refl _ _ | with_reducible assumption | with_reducible apply bel_alloc | with_reducible apply bel_drew | with_reducible apply bel_drewN | ((with_reducible refine bel_set ?_ ?_); rotate_left; (simp <;> omega)) | (with_reducible refine bel_trans ?_ (by with_reducible assumption)))))⟩
end Go.Proofs.YtfnphchcgaebkaaGreat

/- Snakes. -/
namespace Go.Proofs.YtfnphchcgaebkaaGreat
open Go.RowKit
set_option linter.unusedVariables false
attribute [local go_sem ↓] Go.wp_at_zero Go.wp_at_succ

theorem take_no {xs : List C} {k : Nat} {P : C → Prop} (hk : k < xs.length) (h : ∀ c ∈ xs.take k, P c) (h1 : P xs[k]) : ∀ c ∈ xs.take (k + 1), P c := by
  intro c hc
  rw [List.take_succ_eq_append_getElem hk, List.mem_append, List.mem_singleton] at hc
  rcases hc with hc | hc
  · exact h c hc
  · rw [hc]; exact h1
set_option maxHeartbeats 800000 in
theorem IsSnake_i (A : Option Addr) (n c : Nat) (xs : List C) (w : World) (hr : Rd w A (vC xs)) (hl : xs.length = n) (hn : n ≤ 1099511627776) :
    Calls Tryz.prog 8 #[.slice A n c] w (Ret w (.bool (isSnake xs))) := by
  have HL := Lib.hid hl
  clear hl
  go_enter Tryz.func8, Tryz.ntmps8
  go_wp2
  go_loopw [7] (fun i wr => ∃ k : Nat, k ≤ n ∧ i = .int .i64 k ∧ (∀ c ∈ xs.take k, ¬ (xs.length ≤ 8 ∧ 2 < degI xs c)) ∧ Below w.heap.size w wr) (fun i _ => n - (intOf i).toNat)
  case atStart => exact ⟨0, Nat.zero_le _, rfl, by simp, Below.refl _ _⟩
  case round =>
    obtain ⟨k, hk, rfl, hno, hb⟩ := hrel
    by_cases hlt : k < n
    · have hkx : k < xs.length := by rw [HL.out]; omega
      have hrw := hr.below hb
      obtain ⟨g, off, rfl, hgw, c1, c2⟩ := RdC.at_ hrw hkx
      have HT : Hid (¬ (n ≤ 8 ∧ 2 < degI xs xs[k]) → ∀ c ∈ xs.take (k + 1), ¬ (xs.length ≤ 8 ∧ 2 < degI xs c)) := fun h => take_no hkx hno (by rw [HL.out]; exact h)
      have HF : Hid (2 < degI xs xs[k] → isSnake xs = false) := fun h => snake_no (List.getElem_mem hkx) h
      obtain ⟨⟨x, y⟩, hx⟩ : ∃ p, xs[k] = p := ⟨_, rfl⟩
      rw [hx] at c1 c2 HT HF
      clear hno hx
      by_cases h8 : n ≤ 8
      · have h8i : (n : Int) ≤ 8 := by omega
        obtain ⟨q, hq⟩ : ∃ q, degI xs (x, y) = q := ⟨_, rfl⟩
        rw [hq] at HT HF
        have HQ := Lib.hid hq
        clear hq
        by_cases h2 : 2 < q
        · have HV := Lib.hid (HF.out h2)
          have h2i : (2 : Int) < (q : Int) := by omega
          clear h2 HT HF
          go_wp2_with (go_at_call 28; refine (degree_i _ _ _ xs _ _ _ (hrw.alloc _) HL.out (by omega)).mono ?_; rw [HQ.out]; rintro e w1 ⟨rfl, hb1⟩)
          go_ret
          exact ⟨by rw [HV.out]; rfl, (by (repeat (first | with_reducible exact Below.refl _ _ | with_reducible assumption | with_reducible apply bel_alloc | with_reducible apply bel_drew | with_reducible apply bel_drewN | ((with_reducible refine bel_set ?_ ?_); rotate_left; (simp <;> omega)) | (with_reducible refine bel_trans ?_ (by with_reducible assumption)))))⟩
        · have HV := Lib.hid (HT.out (by omega))
          have h2i : ¬ (2 : Int) < (q : Int) := by omega
          have h2d : decide ((2 : Int) < (q : Int)) = false := by simp; omega
          clear h2 HT HF
          go_wp2_with (go_at_call 28; refine (degree_i _ _ _ xs _ _ _ (hrw.alloc _) HL.out (by omega)).mono ?_; rw [HQ.out]; rintro e w1 ⟨rfl, hb1⟩)
          exact ⟨⟨k + 1, by omega, by go_num, HV.out, (by (repeat (first | with_reducible exact Below.refl _ _ | with_reducible assumption | with_reducible apply bel_alloc | with_reducible apply bel_drew | with_reducible apply bel_drewN | ((with_reducible refine bel_set ?_ ?_); rotate_left; (simp <;> omega)) | (with_reducible refine bel_trans ?_ (by with_reducible assumption)))))⟩, by simp [intOf]; omega⟩
      · have HV := Lib.hid (HT.out (by omega))
        have h8i : ¬ (n : Int) ≤ 8 := by omega
        have h8d : decide ((n : Int) ≤ 8) = false := by simp; omega
        clear h8 HT HF
        go_wp2
        exact ⟨⟨k + 1, by omega, by go_num, HV.out, (by (repeat (first | with_reducible exact Below.refl _ _ | with_reducible assumption | with_reducible apply bel_alloc | with_reducible apply bel_drew | with_reducible apply bel_drewN | ((with_reducible refine bel_set ?_ ?_); rotate_left; (simp <;> omega)) | (with_reducible refine bel_trans ?_ (by with_reducible assumption)))))⟩, by simp [intOf]; omega⟩
    · have hkk : k = n := by omega
      subst hkk
      rw [List.take_of_length_le (by rw [HL.out]; omega)] at hno
      have HV := Lib.hid (snake_end hno)
      clear hno
      go_wp2_with (go_at_call 29; refine (IsTreeLike_i _ _ _ xs _ (hr.below hb) HL.out (by omega)).mono ?_; rw [HV.out]; rintro e w1 ⟨rfl, hb1⟩)
      go_ret
      exact ⟨rfl, (by (repeat (first | with_reducible exact Below.refl _ _ | with_reducible assumption | with_reducible apply bel_alloc | with_reducible apply bel_drew | with_reducible apply bel_drewN | ((with_reducible refine bel_set ?_ ?_); rotate_left; (simp <;> omega)) | (with_reducible refine bel_trans ?_ (by with_reducible assumption)))))⟩

theorem snake_iff {s : List C} (ht : isTree s = true) : isSnake s = s.all fun c => decide (deg s c ≤ 2) := by
  unfold isSnake; rw [ht]; rfl
set_option maxHeartbeats 800000 in
theorem IsSnake_s (A : Option Addr) (n c : Nat) (xs : List C) (w : World) (hr : Rd w A (vC xs)) (hl : xs.length = n) (hn : n ≤ 1099511627776) :
    Calls Tryz.prog 42 #[.slice A n c] w (Ret w (.bool (isSnake xs))) := by
  have HL := Lib.hid hl
  cases ht : isTree xs with
  | false =>
    have HV : Hid (isSnake xs = false) := by show isSnake xs = false; unfold isSnake; rw [ht]; rfl
    have HT := Lib.hid ht
    clear ht hl
    go_enter Tryz.func42, Tryz.ntmps42
    go_wp2_with (go_at_call 62; refine (IsTreeLike_s _ _ _ xs _ hr HL.out (by omega)).mono ?_; rw [HT.out]; rintro e w1 ⟨rfl, hb1⟩)
    go_ret
    exact ⟨by rw [HV.out]; rfl, (by (repeat (first | with_reducible exact Below.refl _ _ | with_reducible assumption | with_reducible apply bel_alloc | with_reducible apply bel_drew | with_reducible apply bel_drewN | ((with_reducible refine bel_set ?_ ?_); rotate_left; (simp <;> omega)) | (with_reducible refine bel_trans ?_ (by with_reducible assumption)))))⟩
  | true =>
    have hs := conn_shape (tree_conn ht)
    have hsm := shape_small hs
    have hlen := shape_len hs
    have hn8 : n ≤ 8 := by omega
    have HI := Lib.hid (snake_iff ht)
    have HSM := Lib.hid hsm
    have HT := Lib.hid ht
    clear ht hl hs hsm hlen
    go_enter Tryz.func42, Tryz.ntmps42
    go_wp2_with (go_at_call 62; refine (IsTreeLike_s _ _ _ xs _ hr HL.out (by omega)).mono ?_; rw [HT.out]; rintro e w1 ⟨rfl, hb1⟩)
    go_loopw [3] (fun i wr => ∃ k : Nat, k ≤ n ∧ i = .int .i64 k ∧ (∀ c ∈ xs.take k, deg xs c ≤ 2) ∧ Below w.heap.size w wr) (fun i _ => n - (intOf i).toNat)
    case atStart => exact ⟨0, Nat.zero_le _, rfl, by simp, (by (repeat (first | with_reducible exact Below.refl _ _ | with_reducible assumption | with_reducible apply bel_alloc | with_reducible apply bel_drew | with_reducible apply bel_drewN | ((with_reducible refine bel_set ?_ ?_); rotate_left; (simp <;> omega)) | (with_reducible refine bel_trans ?_ (by with_reducible assumption)))))⟩
    case round =>
      clear hb1
      obtain ⟨k, hk, rfl, hno, hb⟩ := hrel
      by_cases hlt : k < n
      · have hkx : k < xs.length := by rw [HL.out]; omega
        have hrw := hr.below hb
        obtain ⟨g, off, rfl, hgw, c1, c2⟩ := RdC.at_ hrw hkx
        have hdq := degS_eq HSM.out (HSM.out _ (List.getElem_mem hkx))
        have HNX : Hid (deg xs xs[k] ≤ 2 → ∀ c ∈ xs.take (k + 1), deg xs c ≤ 2) := fun h => take_no hkx hno h
        have HNO : Hid (2 < deg xs xs[k] → isSnake xs = false) := fun h => by
          rw [HI.out, Bool.eq_false_iff]
          intro ha
          rw [List.all_eq_true] at ha
          have := ha _ (List.getElem_mem hkx)
          rw [decide_eq_true_eq] at this
          omega
        obtain ⟨⟨x, y⟩, hx⟩ : ∃ p, xs[k] = p := ⟨_, rfl⟩
        rw [hx] at c1 c2 hdq HNX HNO
        obtain ⟨q, hq⟩ : ∃ q, deg xs (x, y) = q := ⟨_, rfl⟩
        rw [hq] at hdq HNX HNO
        have HQ := Lib.hid hdq
        have hi0 : (0 : Int) ≤ (k : Int) := by omega
        have hi1 : (k : Int) < (n : Int) := by omega
        clear hno hx hq hdq
        by_cases h2 : 2 < q
        · have HV := Lib.hid (HNO.out h2)
          have h2i : (2 : Int) < (q : Int) := by omega
          clear h2 HNX HNO
          go_wp2_with (go_at_call 46; refine (l26Degree_s _ _ _ xs _ _ _ hrw HL.out (by omega)).mono ?_; rw [HQ.out]; rintro e w1 ⟨rfl, hb1⟩)
          go_ret
          exact ⟨by rw [HV.out]; rfl, (by (repeat (first | with_reducible exact Below.refl _ _ | with_reducible assumption | with_reducible apply bel_alloc | with_reducible apply bel_drew | with_reducible apply bel_drewN | ((with_reducible refine bel_set ?_ ?_); rotate_left; (simp <;> omega)) | (with_reducible refine bel_trans ?_ (by with_reducible assumption)))))⟩
        · have HV := Lib.hid (HNX.out (by omega))
          have h2i : ¬ (2 : Int) < (q : Int) := by omega
          have h2d : decide ((2 : Int) < (q : Int)) = false := by simp; omega
          clear h2 HNX HNO
          go_wp2_with (go_at_call 46; refine (l26Degree_s _ _ _ xs _ _ _ hrw HL.out (by omega)).mono ?_; rw [HQ.out]; rintro e w1 ⟨rfl, hb1⟩)
          exact ⟨⟨k + 1, by omega, by go_num, HV.out, (by (repeat (first | with_reducible exact Below.refl _ _ | with_reducible assumption | with_reducible apply bel_alloc | with_reducible apply bel_drew | with_reducible apply bel_drewN | ((with_reducible refine bel_set ?_ ?_); rotate_left; (simp <;> omega)) | (with_reducible refine bel_trans ?_ (by with_reducible assumption)))))⟩, by simp [intOf]; omega⟩
      · have hkk : k = n := by omega
        subst hkk
        rw [List.take_of_length_le (by rw [HL.out]; omega)] at hno
        have hv : isSnake xs = true := by
          rw [HI.out, List.all_eq_true]
          intro c hc
          rw [decide_eq_true_eq]; exact hno c hc
        have HV := Lib.hid hv
        clear hno hv
        go_wp2
        go_ret
        exact ⟨by rw [HV.out]; rfl, (by (repeat (first | with_reducible exact Below.refl _ _ | with_reducible assumption | with_reducible apply bel_alloc | with_reducible apply bel_drew | with_reducible apply bel_drewN | ((with_reducible refine bel_set ?_ ?_); rotate_left; (simp <;> omega)) | (with_reducible refine bel_trans ?_ (by with_reducible assumption)))))⟩
end Go.Proofs.YtfnphchcgaebkaaGreat

/- Snakes: the sum of degrees, a snake has an end, the way from an end reaches all cells. No program is in sight. -/
namespace Go.Proofs.YtfnphchcgaebkaaGreat
open Go.RowKit
set_option linter.unusedVariables false

theorem near_irr (a : C) : near a a = false := by simp [near]
theorem deg_app (p : List C) (x c : C) : deg (p ++ [x]) c = deg p c + (if near c x then 1 else 0) := by
  unfold deg; rw [List.countP_append, List.countP_singleton]
theorem sum_add {α : Type} (f : α → Nat) (p : α → Bool) (q : List α) : (q.map fun c => f c + (if p c then 1 else 0)).sum = (q.map f).sum + q.countP p := by
  induction q with
  | nil => rfl
  | cons a t ih => simp only [List.map_cons, List.sum_cons, List.countP_cons, ih]; split <;> omega
def sumDeg (l : List C) : Nat := (l.map (deg l)).sum
theorem sumDeg_app (p : List C) (x : C) : sumDeg (p ++ [x]) = sumDeg p + 2 * p.countP (near x) := by
  unfold sumDeg
  rw [List.map_append, List.sum_append]
  have e : (p.map (deg (p ++ [x]))) = p.map fun c => deg p c + (if near c x then 1 else 0) := by
    apply List.map_congr_left; intro c _; exact deg_app p x c
  rw [e, sum_add (deg p) (fun c => near c x)]
  simp only [List.map_cons, List.map_nil, List.sum_cons, List.sum_nil, deg_app, near_irr]
  have e2 : p.countP (fun c => near c x) = p.countP (near x) := countP_congr' fun d _ => near_symm _ _
  have e3 : deg p x = p.countP (near x) := rfl
  rw [e2, e3]
  simp only [Bool.false_eq_true, if_false]
  omega
theorem sumDeg_inner (l : List C) : ∀ k, k ≤ l.length → sumDeg (l.take k) = 2 * inner l k := by
  intro k
  induction k with
  | zero => intro _; simp [sumDeg, inner]
  | succ k ih =>
    intro hk
    rw [List.take_succ_eq_append_getElem (by omega), sumDeg_app, ih (by omega)]
    simp only [inner, List.getD_eq_getElem?_getD, List.getElem?_eq_getElem (show k < l.length by omega), Option.getD_some]
    have : (List.countP (near l[k]) (List.take k l)) = List.countP (fun d => near l[k] d) (List.take k l) := rfl
    omega
theorem sum_ge (f : C → Nat) (m : Nat) (q : List C) (h : ∀ c ∈ q, m ≤ f c) : q.length * m ≤ (q.map f).sum := by
  induction q with
  | nil => simp
  | cons a t ih =>
    have h1 := ih (fun c hc => h c (by simp [hc]))
    have h2 := h a (by simp)
    simp only [List.map_cons, List.sum_cons, List.length_cons, Nat.add_mul]
    omega
theorem s0_mem {s : List C} (h : 0 < s.length) : s0 s ∈ s := by
  cases s with
  | nil => simp at h
  | cons a t => simp [s0]
theorem rch_first {s : List C} {a c : C} (h : Rch s a c) : c = a ∨ ∃ d ∈ s, near a d = true := by
  induction h with
  | base => exact .inl rfl
  | @step b c _ hc hn ih =>
    rcases ih with rfl | ih
    · exact .inr ⟨c, hc, hn⟩
    · exact .inr ih
theorem rch_last {s : List C} {a c : C} (h : Rch s a c) : c = a ∨ ∃ d, (d = a ∨ d ∈ s) ∧ near c d = true := by
  cases h with
  | base => exact .inl rfl
  | @step b _ h1 hc hn =>
    refine .inr ⟨b, ?_, by rw [near_symm]; exact hn⟩
    cases h1 with
    | base => exact .inl rfl
    | step _ hb _ => exact .inr hb
theorem deg_pos {s : List C} (hs : conn s = true) (hn : s.Nodup) (hl : 2 ≤ s.length) {c : C} (hc : c ∈ s) : 1 ≤ deg s c := by
  rw [conn_iff] at hs
  have key : ∃ d ∈ s, near c d = true := by
    rcases rch_last (hs c hc) with rfl | ⟨d, hd, h⟩
    · obtain ⟨j, hj⟩ : ∃ d ∈ s, d ≠ s0 s := by
        refine ⟨s[1], List.getElem_mem _, fun e => ?_⟩
        have e0 : s0 s = s[0] := by simp [s0, List.getD_eq_getElem?_getD, show 0 < s.length by omega]
        rw [e0] at e
        have := nodup_inj hn (by omega) (by omega) e
        omega
      rcases rch_first (hs j hj.1) with h | h
      · exact absurd h hj.2
      · exact h
    · rcases hd with rfl | hd
      · exact ⟨_, s0_mem (by omega), h⟩
      · exact ⟨d, hd, h⟩
  obtain ⟨d, hd, h⟩ := key
  exact List.countP_pos_iff.2 ⟨d, hd, h⟩
theorem snake_deg {s : List C} (h : isSnake s = true) : ∀ c ∈ s, deg s c ≤ 2 := by
  simp only [isSnake, Bool.and_eq_true, List.all_eq_true, decide_eq_true_eq] at h
  exact h.2
theorem conn_conn {s : List C} (h : isConn s = true) : conn s = true := by simp only [isConn, Bool.and_eq_true] at h; exact h.2
/-- A tree of two cells or more has an end. -/
theorem tree_end {s : List C} (h : isTree s = true) (hl : 2 ≤ s.length) : ∃ c ∈ s, deg s c = 1 := by
  have hc := tree_conn h
  have hn := shape_nodup (conn_shape hc)
  have hi : inner s s.length = s.length - 1 := by simp only [isTree, Bool.and_eq_true, beq_iff_eq] at h; exact h.2
  have hsum := sumDeg_inner s s.length (Nat.le_refl _)
  rw [List.take_length, hi] at hsum
  rcases Classical.em (∃ c ∈ s, deg s c = 1) with h1 | h1
  · exact h1
  · exfalso
    have h2 : ∀ c ∈ s, 2 ≤ deg s c := fun c hcs => by
      have := deg_pos (conn_conn hc) hn hl hcs
      have : deg s c ≠ 1 := fun e => h1 ⟨c, hcs, e⟩
      omega
    have := sum_ge (deg s) 2 s h2
    unfold sumDeg at hsum
    omega
theorem ends_ne {s : List C} (h : isSnake s = true) (hl : 2 ≤ s.length) : ends s ≠ [] := by
  obtain ⟨c, hc, hd⟩ := tree_end (snake_tree h) hl
  have hsh := conn_shape (tree_conn (snake_tree h))
  intro e
  have : c ∈ ends s := by
    unfold ends
    rw [hsh, if_pos rfl, List.mem_filter]
    exact ⟨hc, by simp [hd]⟩
  rw [e] at this
  cases this
def e0 (s : List C) : C := (ends s).getD 0 (0, 0)
theorem e0_mem {s : List C} (h : isSnake s = true) (hl : 2 ≤ s.length) : e0 s ∈ s ∧ deg s (e0 s) = 1 := by
  have hne := ends_ne h hl
  have hm : e0 s ∈ ends s := by
    unfold e0
    cases he : ends s with
    | nil => exact absurd he hne
    | cons a t => simp
  unfold ends at hm
  rw [conn_shape (tree_conn (snake_tree h)), if_pos rfl, List.mem_filter] at hm
  exact ⟨hm.1, by simpa using hm.2⟩
/-- Two cells that a list's filter has are one where it has but one. -/
theorem uniq1 {l : List C} {p : C → Bool} (h : l.countP p ≤ 1) {a b : C} (ha : a ∈ l) (hb : b ∈ l) (pa : p a = true) (pb : p b = true) : a = b := by
  rcases Decidable.em (a = b) with h1 | h1
  · exact h1
  · exfalso
    have := nodup_len [a, b] (l.filter p) (by simp [h1]) (fun x hx => by
      simp only [List.mem_cons, List.not_mem_nil, or_false] at hx
      rcases hx with rfl | rfl
      · exact List.mem_filter.2 ⟨ha, pa⟩
      · exact List.mem_filter.2 ⟨hb, pb⟩)
    rw [← List.countP_eq_length_filter] at this
    simp only [List.length_cons, List.length_nil] at this
    omega
theorem uniq2 {l : List C} {p : C → Bool} (h : l.countP p ≤ 2) {a b c : C} (hab : a ≠ b) (ha : a ∈ l) (hb : b ∈ l) (hc : c ∈ l) (pa : p a = true) (pb : p b = true) (pc : p c = true) : c = a ∨ c = b := by
  rcases Decidable.em (c = a) with h1 | h1
  · exact .inl h1
  · rcases Decidable.em (c = b) with h2 | h2
    · exact .inr h2
    · exfalso
      have := nodup_len [a, b, c] (l.filter p) (by simp [hab, Ne.symm h1, Ne.symm h2]) (fun x hx => by
        simp only [List.mem_cons, List.not_mem_nil, or_false] at hx
        rcases hx with rfl | rfl | rfl
        · exact List.mem_filter.2 ⟨ha, pa⟩
        · exact List.mem_filter.2 ⟨hb, pb⟩
        · exact List.mem_filter.2 ⟨hc, pc⟩)
      rw [← List.countP_eq_length_filter] at this
      simp only [List.length_cons, List.length_nil] at this
      omega

def lastC (out : List C) : C := out.getD (out.length - 1) (0, 0)
/-- The next cell on the way: beside the last one, and new. -/
def onWay (out : List C) (c : C) : Bool := near (lastC out) c && !hasC out c.1 c.2
def walkBy (s : List C) : Nat → List C
  | 0 => [e0 s]
  | k + 1 => walkBy s k ++ (s.find? (onWay (walkBy s k))).toList
structure Way (s out : List C) : Prop where
  pos : 0 < out.length
  end_ : deg s (out.getD 0 (0, 0)) = 1
  sub : ∀ c ∈ out, c ∈ s
  nd : out.Nodup
  adj : ∀ i (h : i + 1 < out.length), near out[i] out[i + 1] = true
theorem lastC_eq {out : List C} (h : 0 < out.length) : lastC out = out[out.length - 1] := by
  unfold lastC; rw [List.getD_eq_getElem?_getD, List.getElem?_eq_getElem (by omega)]; rfl
theorem Way.closed {s out : List C} (hs : isSnake s = true) (hw : Way s out) (hno : ∀ c ∈ s, near (lastC out) c = true → c ∈ out) :
    ∀ i (h : i < out.length), ∀ c ∈ s, near out[i] c = true → c ∈ out := by
  intro i hi c hc hn
  by_cases hl : i = out.length - 1
  · subst hl
    exact hno c hc (by rw [lastC_eq hw.pos]; exact hn)
  · have h1 := hw.adj i (by omega)
    have m1 : out[i + 1] ∈ out := List.getElem_mem _
    by_cases h0 : i = 0
    · subst h0
      have he : deg s out[0] = 1 := by
        have := hw.end_
        rwa [List.getD_eq_getElem?_getD, List.getElem?_eq_getElem hw.pos] at this
      have : c = out[0 + 1] := uniq1 (l := s) (p := fun d => near out[0] d) (by unfold deg at he; omega) hc (hw.sub _ m1) hn h1
      rw [this]; exact m1
    · have h2 := hw.adj (i - 1) (by omega)
      have e : i - 1 + 1 = i := by omega
      simp only [e] at h2
      have m2 : out[i - 1] ∈ out := List.getElem_mem _
      have hne : out[i - 1] ≠ out[i + 1] := fun e => by
        have := nodup_inj hw.nd (by omega) (by omega) e
        omega
      have hd := snake_deg hs out[i] (hw.sub _ (List.getElem_mem _))
      rcases uniq2 (l := s) (p := fun d => near out[i] d) hd hne (hw.sub _ m2) (hw.sub _ m1) hc (by rw [near_symm]; exact h2) h1 hn with h | h
      · rw [h]; exact m2
      · rw [h]; exact m1
theorem Way.next {s out : List C} (hs : isSnake s = true) (hw : Way s out) (hlen : out.length < s.length) : ∃ c, s.find? (onWay out) = some c := by
  rcases hf : s.find? (onWay out) with _ | c
  · exfalso
    rw [List.find?_eq_none] at hf
    have hno : ∀ c ∈ s, near (lastC out) c = true → c ∈ out := fun c hc hn => by
      have := hf c hc
      simp only [onWay, hn, Bool.true_and, Bool.not_eq_true', Bool.not_eq_false] at this
      exact (hasC_iff _ _).1 this
    have hcl := hw.closed hs hno
    have hconn := conn_conn (tree_conn (snake_tree hs))
    rw [conn_iff] at hconn
    have hpos : 0 < s.length := by omega
    have hop := hw.pos
    have hback : ∀ c, Rch s (s0 s) c → c ∈ out → s0 s ∈ out := by
      intro c hc
      induction hc with
      | base => exact id
      | @step b c h1 hc hn ih =>
        intro hco
        apply ih
        obtain ⟨i, hi, rfl⟩ := List.mem_iff_getElem.1 hco
        have hbs : b ∈ s := by
          cases h1 with
          | base => exact s0_mem hpos
          | step _ hb _ => exact hb
        exact hcl i hi b hbs (by rw [near_symm]; exact hn)
    have h00 : s0 s ∈ out := hback out[0] (hconn _ (hw.sub _ (List.getElem_mem hw.pos))) (List.getElem_mem _)
    have all : ∀ c, Rch s (s0 s) c → c ∈ out := by
      intro c hc
      induction hc with
      | base => exact h00
      | @step b c _ hc hn ih =>
        obtain ⟨i, hi, rfl⟩ := List.mem_iff_getElem.1 ih
        exact hcl i hi c hc hn
    have hnd := shape_nodup (conn_shape (tree_conn (snake_tree hs)))
    have := nodup_len s out hnd (fun c hc => all c (hconn c hc))
    omega
  · exact ⟨c, rfl⟩
theorem walk_way {s : List C} (hs : isSnake s = true) (hl : 2 ≤ s.length) : ∀ k, k < s.length → (walkBy s k).length = k + 1 ∧ Way s (walkBy s k) := by
  intro k
  induction k with
  | zero =>
    intro _
    have h := e0_mem hs hl
    exact ⟨rfl, ⟨by simp [walkBy], by simpa [walkBy] using h.2, fun c hc => by simp only [walkBy, List.mem_singleton] at hc; rw [hc]; exact h.1, by simp [walkBy], fun i hi => by simp [walkBy] at hi⟩⟩
  | succ k ih =>
    intro hk
    obtain ⟨h1, hw⟩ := ih (by omega)
    obtain ⟨c, hc⟩ := hw.next hs (by omega)
    have hcs := List.mem_of_find?_eq_some hc
    have hcp := List.find?_some hc
    simp only [onWay, Bool.and_eq_true, Bool.not_eq_true'] at hcp
    have hcn : c ∉ walkBy s k := fun hm => by rw [(hasC_iff _ _).2 hm] at hcp; cases hcp.2
    have e : walkBy s (k + 1) = walkBy s k ++ [c] := by simp only [walkBy, hc]; rfl
    rw [e]
    refine ⟨by simp [h1], ⟨by simp, ?_, fun d hd => ?_, ?_, fun i hi => ?_⟩⟩
    · have := hw.end_
      rw [List.getD_eq_getElem?_getD] at this ⊢
      rwa [List.getElem?_append_left hw.pos]
    · rcases List.mem_append.1 hd with hd | hd
      · exact hw.sub d hd
      · simp only [List.mem_singleton] at hd; rw [hd]; exact hcs
    · rw [List.nodup_append]
      refine ⟨hw.nd, by simp, fun a ha b hb => ?_⟩
      simp only [List.mem_singleton] at hb
      subst hb
      rintro rfl
      exact hcn ha
    · simp only [List.length_append, List.length_singleton] at hi
      by_cases hi2 : i + 1 < (walkBy s k).length
      · rw [List.getElem_append_left hi2, List.getElem_append_left (by omega)]
        exact hw.adj i hi2
      · have hil : i = (walkBy s k).length - 1 := by omega
        have hnl := hcp.1
        rw [lastC_eq hw.pos] at hnl
        have e1 : (walkBy s k ++ [c])[i]'(by simp; omega) = (walkBy s k)[(walkBy s k).length - 1]'(by omega) := by
          rw [List.getElem_append_left (by omega)]; simp only [hil]
        have e2 : (walkBy s k ++ [c])[i + 1]'(by simp; omega) = c := by
          rw [List.getElem_append_right (by omega)]; simp only [show i + 1 - (walkBy s k).length = 0 from by omega, List.getElem_cons_zero]
        rw [e1, e2]
        exact hnl
noncomputable def snakeOrder (s : List C) : List C := if isSnake s then (if s.length = 1 then s else walkBy s (s.length - 1)) else []
theorem snakeOrder_len {s : List C} (hs : isSnake s = true) : (snakeOrder s).length = s.length := by
  have hn := shape_len (conn_shape (tree_conn (snake_tree hs)))
  unfold snakeOrder
  rw [hs, if_pos rfl]
  split
  · rfl
  · rw [(walk_way hs (by omega) _ (by omega)).1]; omega
theorem snakeOrder_le (s : List C) : (snakeOrder s).length ≤ 1048576 := by
  cases hs : isSnake s with
  | false => unfold snakeOrder; rw [hs]; simp
  | true =>
    have hn := shape_len (conn_shape (tree_conn (snake_tree hs)))
    rw [snakeOrder_len hs]; omega
theorem snakeOrder_adj {s : List C} (i : Nat) (h : i + 1 < (snakeOrder s).length) : near (snakeOrder s)[i] (snakeOrder s)[i + 1] = true := by
  cases hs : isSnake s with
  | false => exfalso; unfold snakeOrder at h; rw [hs] at h; simp at h
  | true =>
    have hn := shape_len (conn_shape (tree_conn (snake_tree hs)))
    have hlen := snakeOrder_len hs
    have e : snakeOrder s = walkBy s (s.length - 1) := by unfold snakeOrder; rw [hs, if_pos rfl, if_neg (by omega)]
    simp only [e]
    exact (walk_way hs (by omega) _ (by omega)).2.adj i (by rw [← e]; exact h)
theorem find_at2 {α : Type} {p : α → Bool} {xs : List α} {j : Nat} (hj : j < xs.length) (h : ∀ c ∈ xs.take j, p c = false) (h1 : p xs[j] = true) : xs.find? p = some xs[j] := by
  have e : xs = xs.take j ++ xs[j] :: xs.drop (j + 1) := by rw [← List.drop_eq_getElem_cons hj, List.take_append_drop]
  have h2 : (xs.take j).find? p = none := by rw [List.find?_eq_none]; intro c hc; rw [h c hc]; simp
  conv => lhs; rw [e]
  rw [List.find?_append, h2, List.find?_cons, h1]; rfl
theorem walkBy_next {xs : List C} {k j : Nat} (hj : j < xs.length) (h : ∀ c ∈ xs.take j, onWay (walkBy xs k) c = false) (h1 : onWay (walkBy xs k) xs[j] = true) : walkBy xs (k + 1) = walkBy xs k ++ [xs[j]] := by
  simp only [walkBy, find_at2 hj h h1]; rfl
theorem walkBy_none {xs : List C} {k : Nat} (hs : isSnake xs = true) (hl : 2 ≤ xs.length) (hk : k + 1 < xs.length) (h : ∀ c ∈ xs, onWay (walkBy xs k) c = false) : False := by
  have hw := walk_way hs hl k (by omega)
  obtain ⟨c, hf⟩ := hw.2.next hs (by omega)
  have := List.find?_some hf
  rw [h c (List.mem_of_find?_eq_some hf)] at this
  cases this
end Go.Proofs.YtfnphchcgaebkaaGreat
