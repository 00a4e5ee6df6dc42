/- The reference's IsConnectedShape. -/
import Derived.Test.YteelmhmdnljjnaaShape
import Derived.Test.YteelmhmdnljjnaaBfsM
import Derived.Test.YteelmhmdnljjnaaShpS
import Derived.Test.YteelmhmdnljjnaaMem
import Derived.Test.YteelmhmdnljjnaaReg
import Derived.Outline
import Derived.WalkLawsBesides
import Derived.WalkSpells
import Derived.BigQuiet
import Derived.Deep.QuietTactic
import Derived.Deep.RegionHeld3
import Derived.Deep.RegionWith
import Derived.Deep.DeepCutAuto
import Derived.Deep.CutBlock
import Derived.Deep.DrawnRows
namespace Go.Proofs.Yteelmhmdnljjnaa
open Go.RowKit
set_option linter.unusedVariables false
attribute [local go_sem ↓] Go.wp_at_zero Go.wp_at_succ

set_option maxHeartbeats 1600000 in
theorem IsConnectedShape_s (A : Option Addr) (n c : Nat) (xs : List C) (w : World) (hr : Rd w A (vC xs)) (hl : xs.length = n) (hn : n ≤ 1099511627776) :
    Calls Try.prog 54 #[.slice A n c] w (Ret w (.bool (isConn xs))) := by
  have HL := Lib.hid hl
  cases hs : isShape xs with
  | false =>
    have HV : Hid (isConn xs = false) := by show isConn xs = false; unfold isConn; rw [hs]; rfl
    have HS := Lib.hid hs
    clear hs hl
    go_enter Try.func54, Try.ntmps54
    go_wp2_with (go_at_call 28; refine (IsShape_s _ _ _ xs _ hr HL.out (by omega)).mono ?_; rw [HS.out]; rintro e w1 ⟨rfl, hb1⟩)
    go_ret
    exact ⟨by rw [HV.out]; rfl, (by (repeat (first | with_reducible exact Below.refl _ _ | with_reducible assumption | with_reducible apply bel_alloc | with_reducible apply bel_drew | with_reducible apply bel_drewN | ((with_reducible refine bel_set ?_ ?_); rotate_left; (simp <;> omega)) | (with_reducible refine bel_trans ?_ (by with_reducible assumption)))))⟩
  | true =>
    have HV : Hid (isConn xs = conn xs) := by show isConn xs = conn xs; unfold isConn; rw [hs]; rfl
    have hlen := shape_len hs
    have hsm := shape_small hs
    have hn8 : n ≤ 8 := by omega
    have hn1 : 1 ≤ n := by omega
    have hnp : (0 : Int) < (n : Int) := by omega
    have h0x : 0 < xs.length := by omega
    have hI := Bfs.init xs (by omega)
    have hs0 : xs[0] = s0 xs := by simp [s0, List.getD_eq_getElem?_getD, h0x]
    have HS := Lib.hid hs
    have HSM := Lib.hid hsm
    have HI := Lib.hid hI
    have HS0 := Lib.hid hs0
    clear hs hlen hsm hl hn hI hs0
    go_enter Try.func54, Try.ntmps54
    go_wp2_with (go_at_call 28; refine (IsShape_s _ _ _ xs _ hr HL.out (by omega)).mono ?_; rw [HS.out]; rintro e w1 ⟨rfl, hb1⟩; obtain ⟨g0, off0, hA0, hg0, z1, z2⟩ := RdC.at_ (hr.below hb1) h0x; rw [HS0.out] at z1 z2; simp only [Nat.zero_mul, Nat.add_zero] at z1 z2; obtain ⟨⟨zx, zy⟩, hz⟩ : ∃ p, s0 xs = p := ⟨_, rfl⟩; rw [hz] at z1 z2; have HZ := Lib.hid hz; clear hz; subst hA0)
    have hbs := hb1.size
    go_loopw [4, 3] (fun l e wr => ∃ (i m cap : Nat) (B : Option Addr) (seen : List C), i ≤ m ∧ l = .int .i64 i ∧ seen.length = m ∧ e = .slice B m cap ∧ Bfs xs seen i 0 ∧ wr.ownsRow w.heap.size 36 2 (.slice B m cap) m (vC seen) ∧ Below w.heap.size w wr) (fun l _ _ => n - (intOf l).toNat)
    case atStart => exact ⟨0, 1, 1, _, [s0 xs], by omega, rfl, rfl, rfl, HI.out, by rw [HZ.out]; exact own_newC _ _ _ _ hbs, (by (repeat (first | with_reducible exact Below.refl _ _ | with_reducible assumption | with_reducible apply bel_alloc | with_reducible apply bel_drew | with_reducible apply bel_drewN | ((with_reducible refine bel_set ?_ ?_); rotate_left; (simp <;> omega)) | (with_reducible refine bel_trans ?_ (by with_reducible assumption)))))⟩
    case round =>
      clear HI HZ hb1 z1 z2 hg0 hbs
      obtain ⟨i, m, cap, B, seen, him, rfl, hm, rfl, hF, hown, hb⟩ := hrel
      have hmn : m ≤ n := by have := hF.len; have := HL.out; omega
      by_cases hlt : i < m
      · have HM := Lib.hid hm
        have HF := Lib.hid hF
        have HO := Lib.hid hown
        clear hm hF hown
        go_wp2
        go_loopw [5, 3] (fun l e wr => ∃ (j m cap : Nat) (B : Option Addr) (seen : List C), j ≤ n ∧ i < m ∧ l = .int .i64 j ∧ seen.length = m ∧ e = .slice B m cap ∧ Bfs xs seen i j ∧ wr.ownsRow w.heap.size 36 2 (.slice B m cap) m (vC seen) ∧ Below w.heap.size w wr) (fun l _ _ => n - (intOf l).toNat)
        case atStart => exact ⟨0, m, cap, B, seen, Nat.zero_le _, hlt, rfl, HM.out, rfl, HF.out, HO.out, hb⟩
        case round =>
          clear HM HF HO hb hmn him hlt
          obtain ⟨j, m, cap, B, seen, hj, him, rfl, hm, rfl, hF, hown, hb⟩ := hrel
          have hmn : m ≤ n := by have := hF.len; have := HL.out; omega
          by_cases hlj : j < n
          · have hix : i < seen.length := by omega
            have hjx : j < xs.length := by rw [HL.out]; omega
            have hrw := hr.below hb
            obtain ⟨g, off, hA, hgw, d1, d2⟩ := RdC.at_ hrw hjx
            simp only [Option.some.injEq, Addr.mk.injEq, and_true] at hA
            obtain ⟨rfl, rfl⟩ := hA
            have hrs := Rd.of_own hown
            obtain ⟨g2, off2, rfl, hgw2, c1, c2⟩ := RdC.at_ hrs hix
            have hne := nearS_eq (HSM.out _ (hF.sub _ (List.getElem_mem hix))) (HSM.out _ (List.getElem_mem hjx))
            have HPU : Hid (near seen[i] xs[j] = true → hasC seen xs[j].1 xs[j].2 = false → Bfs xs (seen ++ [xs[j]]) i (j + 1)) := fun h1 h2 => hF.push hix hjx h1 h2
            have HSK : Hid ((near seen[i] xs[j] && !hasC seen xs[j].1 xs[j].2) = false → Bfs xs seen i (j + 1)) := fun h1 => hF.skip hix hjx fun h2 => by rw [h2] at h1; simpa using h1
            obtain ⟨⟨x, y⟩, hx⟩ : ∃ p, seen[i] = p := ⟨_, rfl⟩
            obtain ⟨⟨x', y'⟩, hx'⟩ : ∃ p, xs[j] = p := ⟨_, rfl⟩
            rw [hx] at c1 c2
            rw [hx'] at d1 d2
            rw [hx, hx'] at hne HPU HSK
            have hi0 : (0 : Int) ≤ (i : Int) := by omega
            have hi1 : (i : Int) < (m : Int) := by omega
            have hi2 : (0 : Int) ≤ (j : Int) := by omega
            have hi3 : (j : Int) < (n : Int) := by omega
            have HM := Lib.hid hm
            have HO := Lib.hid hown
            have HW := Lib.hid hne
            have HRS := Lib.hid hrs
            clear hm hF hown hne hx hx' hrs
            go_upto_region 10 with fail
            go_cut [48] (fun s wx => s = .bool (near (x, y) (x', y') && !hasC seen x' y') ∧ Below wr.heap.size wr wx)
            case first =>
              cases hv : near (x, y) (x', y') with
              | false =>
                rw [hv] at HW
                have HVV := Lib.hid hv
                clear hv
                refine wp_region_noPanic ?_
                refine wp_region_held_drew (S := (fun w' => w'.cell? ⟨g2, off2 + i * 2, none⟩ = some (.int .i64 x) ∧ w'.cell? ⟨g2, off2 + i * 2 + 1, none⟩ = some (.int .i64 y) ∧ w'.cell? ⟨g0, off0 + j * 2, none⟩ = some (.int .i64 x') ∧ w'.cell? ⟨g0, off0 + j * 2 + 1, none⟩ = some (.int .i64 y'))) (by kernel_rfl) ?_ (fun hS => ?_)
                · ((go_split_ands; (try dsimp only); (repeat' (with_reducible apply And.intro)) <;> (repeat (first | with_reducible assumption | with_reducible apply keep_alloc | with_reducible apply keep_drew | with_reducible refine keep_below hb1 ?_ | ((with_reducible refine keep_set ?_ ?_); rotate_left; (simp <;> omega))))))
                refine wpT (i := 0) (v := ?_) rfl rfl (by kernel_rfl) (by kernel_rfl) (by kernel_rfl) (fun _ _ _ h => h) (Or.inl ⟨by rfl, ?_⟩) hS ?_
                rotate_left
                · (intro w hSw; (try dsimp only at hSw); go_simp; first | done | with_reducible rfl)
                simp only [List.setIfInBounds_toArray, List.set_cons_zero, List.set_cons_succ]
                refine wpT (i := 1) (v := ?_) rfl rfl (by kernel_rfl) (by kernel_rfl) (by kernel_rfl) (fun _ _ _ h => h) (Or.inl ⟨by rfl, ?_⟩) hS ?_
                rotate_left
                · (intro w hSw; (try dsimp only at hSw); go_simp; first | done | with_reducible rfl)
                simp only [List.setIfInBounds_toArray, List.set_cons_zero, List.set_cons_succ]
                refine wpT (i := 2) (v := ?_) rfl rfl (by kernel_rfl) (by kernel_rfl) (by kernel_rfl) (fun _ _ _ h => h) (Or.inl ⟨by rfl, ?_⟩) hS ?_
                rotate_left
                · (intro w hSw; (try dsimp only at hSw); go_simp; first | done | with_reducible rfl)
                simp only [List.setIfInBounds_toArray, List.set_cons_zero, List.set_cons_succ]
                refine wpT (i := 3) (v := ?_) rfl rfl (by kernel_rfl) (by kernel_rfl) (by kernel_rfl) (fun _ _ _ h => h) (Or.inl ⟨by rfl, ?_⟩) hS ?_
                rotate_left
                · (intro w hSw; (try dsimp only at hSw); go_simp; first | done | with_reducible rfl)
                simp only [List.setIfInBounds_toArray, List.set_cons_zero, List.set_cons_succ]
                refine wpT (i := 4) (v := ?_) rfl rfl (by kernel_rfl) (by kernel_rfl) (by kernel_rfl) (fun _ _ _ h => h) (Or.inl ⟨by rfl, ?_⟩) hS ?_
                rotate_left
                · (intro w hSw; (try dsimp only at hSw); go_simp; first | done | with_reducible rfl)
                simp only [List.setIfInBounds_toArray, List.set_cons_zero, List.set_cons_succ]
                refine wpT (i := 5) (v := ?_) rfl rfl (by kernel_rfl) (by kernel_rfl) (by kernel_rfl) (fun _ _ _ h => h) (Or.inl ⟨by rfl, ?_⟩) hS ?_
                rotate_left
                · (intro w hSw; (try dsimp only at hSw); go_simp; first | done | with_reducible rfl)
                simp only [List.setIfInBounds_toArray, List.set_cons_zero, List.set_cons_succ]
                refine wpT (i := 6) (v := ?_) rfl rfl (by kernel_rfl) (by kernel_rfl) (by kernel_rfl) (fun _ _ _ h => h) (Or.inl ⟨by rfl, ?_⟩) hS ?_
                rotate_left
                · (intro w hSw; (try dsimp only at hSw); go_simp; first | done | with_reducible rfl)
                simp only [List.setIfInBounds_toArray, List.set_cons_zero, List.set_cons_succ]
                refine wpT (i := 7) (v := ?_) rfl rfl (by kernel_rfl) (by kernel_rfl) (by kernel_rfl) (fun _ _ _ h => h) (Or.inl ⟨by rfl, ?_⟩) hS ?_
                rotate_left
                · (intro w hSw; (try dsimp only at hSw); go_simp; first | done | with_reducible rfl)
                simp only [List.setIfInBounds_toArray, List.set_cons_zero, List.set_cons_succ]
                refine wpAnyH_ready (rs := [8]) (by kernel_rfl) (by simp) ?_
                refine AllReadyH.cons rfl (fun K hK => ?_) AllReadyH.nil
                go_simp
                (go_at_call 48; refine (l2Near_s _ _ _ _ _).mono ?_; rw [HW.out]; rintro e w1 ⟨rfl, hb1⟩)
                try go_wp2_with fail
                refine hK.out _ _ ?_ (fun hS2 => ?_)
                · (clear hK K; ((go_split_ands; (try dsimp only); (repeat' (with_reducible apply And.intro)) <;> (repeat (first | with_reducible assumption | with_reducible apply keep_alloc | with_reducible apply keep_drew | with_reducible refine keep_below hb1 ?_ | ((with_reducible refine keep_set ?_ ?_); rotate_left; (simp <;> omega)))))))
                clear hS hK K
                have hS := hS2
                clear hS2
                refine wpT (i := 9) (v := ?_) rfl rfl (by kernel_rfl) (by kernel_rfl) (by kernel_rfl) (fun _ _ _ h => h) (Or.inl ⟨by rfl, ?_⟩) hS ?_
                rotate_left
                · (intro w hSw; (try dsimp only at hSw); go_simp; first | done | with_reducible rfl)
                simp only [List.setIfInBounds_toArray, List.set_cons_zero, List.set_cons_succ]
                refine wpT (i := 10) (v := undef) rfl rfl (by kernel_rfl) (by kernel_rfl) (by kernel_rfl) (fun _ _ _ h => h) (Or.inr ⟨by rfl, rfl⟩) hS ?_
                simp only [List.setIfInBounds_toArray, List.set_cons_zero, List.set_cons_succ]
                refine wpT (i := 11) (v := undef) rfl rfl (by kernel_rfl) (by kernel_rfl) (by kernel_rfl) (fun _ _ _ h => h) (Or.inr ⟨by rfl, rfl⟩) hS ?_
                simp only [List.setIfInBounds_toArray, List.set_cons_zero, List.set_cons_succ]
                refine wpT (i := 12) (v := undef) rfl rfl (by kernel_rfl) (by kernel_rfl) (by kernel_rfl) (fun _ _ _ h => h) (Or.inr ⟨by rfl, rfl⟩) hS ?_
                simp only [List.setIfInBounds_toArray, List.set_cons_zero, List.set_cons_succ]
                refine wpT (i := 13) (v := undef) rfl rfl (by kernel_rfl) (by kernel_rfl) (by kernel_rfl) (fun _ _ _ h => h) (Or.inr ⟨by rfl, rfl⟩) hS ?_
                simp only [List.setIfInBounds_toArray, List.set_cons_zero, List.set_cons_succ]
                refine wpT (i := 14) (v := undef) rfl rfl (by kernel_rfl) (by kernel_rfl) (by kernel_rfl) (fun _ _ _ h => h) (Or.inr ⟨by rfl, rfl⟩) hS ?_
                simp only [List.setIfInBounds_toArray, List.set_cons_zero, List.set_cons_succ]
                refine wpT (i := 15) (v := undef) rfl rfl (by kernel_rfl) (by kernel_rfl) (by kernel_rfl) (fun _ _ _ h => h) (Or.inr ⟨by rfl, rfl⟩) hS ?_
                simp only [List.setIfInBounds_toArray, List.set_cons_zero, List.set_cons_succ]
                refine wpT (i := 16) (v := undef) rfl rfl (by kernel_rfl) (by kernel_rfl) (by kernel_rfl) (fun _ _ _ h => h) (Or.inr ⟨by rfl, rfl⟩) hS ?_
                simp only [List.setIfInBounds_toArray, List.set_cons_zero, List.set_cons_succ]
                refine wpT (i := 17) (v := undef) rfl rfl (by kernel_rfl) (by kernel_rfl) (by kernel_rfl) (fun _ _ _ h => h) (Or.inr ⟨by rfl, rfl⟩) hS ?_
                simp only [List.setIfInBounds_toArray, List.set_cons_zero, List.set_cons_succ]
                refine wpT (i := 18) (v := undef) rfl rfl (by kernel_rfl) (by kernel_rfl) (by kernel_rfl) (fun _ _ _ h => h) (Or.inr ⟨by rfl, rfl⟩) hS ?_
                simp only [List.setIfInBounds_toArray, List.set_cons_zero, List.set_cons_succ]
                refine wpT (i := 19) (v := undef) rfl rfl (by kernel_rfl) (by kernel_rfl) (by kernel_rfl) (fun _ _ _ h => h) (Or.inr ⟨by rfl, rfl⟩) hS ?_
                simp only [List.setIfInBounds_toArray, List.set_cons_zero, List.set_cons_succ]
                refine wpT (i := 20) (v := undef) rfl rfl (by kernel_rfl) (by kernel_rfl) (by kernel_rfl) (fun _ _ _ h => h) (Or.inr ⟨by rfl, rfl⟩) hS ?_
                simp only [List.setIfInBounds_toArray, List.set_cons_zero, List.set_cons_succ]
                refine wpT (i := 21) (v := undef) rfl rfl (by kernel_rfl) (by kernel_rfl) (by kernel_rfl) (fun _ _ _ h => h) (Or.inr ⟨by rfl, rfl⟩) hS ?_
                simp only [List.setIfInBounds_toArray, List.set_cons_zero, List.set_cons_succ]
                refine wpT (i := 22) (v := undef) rfl rfl (by kernel_rfl) (by kernel_rfl) (by kernel_rfl) (fun _ _ _ h => h) (Or.inr ⟨by rfl, rfl⟩) hS ?_
                simp only [List.setIfInBounds_toArray, List.set_cons_zero, List.set_cons_succ]
                refine wpT (i := 23) (v := ?_) rfl rfl (by kernel_rfl) (by kernel_rfl) (by kernel_rfl) (fun _ _ _ h => h) (Or.inl ⟨by rfl, ?_⟩) hS ?_
                rotate_left
                · (intro w hSw; (try dsimp only at hSw); go_simp; first | done | with_reducible rfl)
                simp only [List.setIfInBounds_toArray, List.set_cons_zero, List.set_cons_succ]
                refine wpAnyH_done (by kernel_rfl) ?_ _
                refine NoPanic.normal ?_
                go_wp2_with fail
                go_meet
                exact ⟨by rw [HVV.out]; rfl, (by (repeat (first | with_reducible exact Below.refl _ _ | with_reducible assumption | with_reducible apply bel_alloc | with_reducible apply bel_drew | with_reducible apply bel_drewN | ((with_reducible refine bel_set ?_ ?_); rotate_left; (simp <;> omega)) | (with_reducible refine bel_trans ?_ (by with_reducible assumption)))))⟩
              | true =>
                rw [hv] at HW
                have HVV := Lib.hid hv
                clear hv
                refine wp_region_noPanic ?_
                refine wp_region_held_drew (S := (fun w' => w'.cell? ⟨g2, off2 + i * 2, none⟩ = some (.int .i64 x) ∧ w'.cell? ⟨g2, off2 + i * 2 + 1, none⟩ = some (.int .i64 y) ∧ w'.cell? ⟨g0, off0 + j * 2, none⟩ = some (.int .i64 x') ∧ w'.cell? ⟨g0, off0 + j * 2 + 1, none⟩ = some (.int .i64 y'))) (by kernel_rfl) ?_ (fun hS => ?_)
                · ((go_split_ands; (try dsimp only); (repeat' (with_reducible apply And.intro)) <;> (repeat (first | with_reducible assumption | with_reducible apply keep_alloc | with_reducible apply keep_drew | with_reducible refine keep_below hb1 ?_ | ((with_reducible refine keep_set ?_ ?_); rotate_left; (simp <;> omega))))))
                refine wpT (i := 0) (v := ?_) rfl rfl (by kernel_rfl) (by kernel_rfl) (by kernel_rfl) (fun _ _ _ h => h) (Or.inl ⟨by rfl, ?_⟩) hS ?_
                rotate_left
                · (intro w hSw; (try dsimp only at hSw); go_simp; first | done | with_reducible rfl)
                simp only [List.setIfInBounds_toArray, List.set_cons_zero, List.set_cons_succ]
                refine wpT (i := 1) (v := ?_) rfl rfl (by kernel_rfl) (by kernel_rfl) (by kernel_rfl) (fun _ _ _ h => h) (Or.inl ⟨by rfl, ?_⟩) hS ?_
                rotate_left
                · (intro w hSw; (try dsimp only at hSw); go_simp; first | done | with_reducible rfl)
                simp only [List.setIfInBounds_toArray, List.set_cons_zero, List.set_cons_succ]
                refine wpT (i := 2) (v := ?_) rfl rfl (by kernel_rfl) (by kernel_rfl) (by kernel_rfl) (fun _ _ _ h => h) (Or.inl ⟨by rfl, ?_⟩) hS ?_
                rotate_left
                · (intro w hSw; (try dsimp only at hSw); go_simp; first | done | with_reducible rfl)
                simp only [List.setIfInBounds_toArray, List.set_cons_zero, List.set_cons_succ]
                refine wpT (i := 3) (v := ?_) rfl rfl (by kernel_rfl) (by kernel_rfl) (by kernel_rfl) (fun _ _ _ h => h) (Or.inl ⟨by rfl, ?_⟩) hS ?_
                rotate_left
                · (intro w hSw; (try dsimp only at hSw); go_simp; first | done | with_reducible rfl)
                simp only [List.setIfInBounds_toArray, List.set_cons_zero, List.set_cons_succ]
                refine wpT (i := 4) (v := ?_) rfl rfl (by kernel_rfl) (by kernel_rfl) (by kernel_rfl) (fun _ _ _ h => h) (Or.inl ⟨by rfl, ?_⟩) hS ?_
                rotate_left
                · (intro w hSw; (try dsimp only at hSw); go_simp; first | done | with_reducible rfl)
                simp only [List.setIfInBounds_toArray, List.set_cons_zero, List.set_cons_succ]
                refine wpT (i := 5) (v := ?_) rfl rfl (by kernel_rfl) (by kernel_rfl) (by kernel_rfl) (fun _ _ _ h => h) (Or.inl ⟨by rfl, ?_⟩) hS ?_
                rotate_left
                · (intro w hSw; (try dsimp only at hSw); go_simp; first | done | with_reducible rfl)
                simp only [List.setIfInBounds_toArray, List.set_cons_zero, List.set_cons_succ]
                refine wpT (i := 6) (v := ?_) rfl rfl (by kernel_rfl) (by kernel_rfl) (by kernel_rfl) (fun _ _ _ h => h) (Or.inl ⟨by rfl, ?_⟩) hS ?_
                rotate_left
                · (intro w hSw; (try dsimp only at hSw); go_simp; first | done | with_reducible rfl)
                simp only [List.setIfInBounds_toArray, List.set_cons_zero, List.set_cons_succ]
                refine wpT (i := 7) (v := ?_) rfl rfl (by kernel_rfl) (by kernel_rfl) (by kernel_rfl) (fun _ _ _ h => h) (Or.inl ⟨by rfl, ?_⟩) hS ?_
                rotate_left
                · (intro w hSw; (try dsimp only at hSw); go_simp; first | done | with_reducible rfl)
                simp only [List.setIfInBounds_toArray, List.set_cons_zero, List.set_cons_succ]
                refine wpAnyH_ready (rs := [8]) (by kernel_rfl) (by simp) ?_
                refine AllReadyH.cons rfl (fun K hK => ?_) AllReadyH.nil
                go_simp
                (go_at_call 48; refine (l2Near_s _ _ _ _ _).mono ?_; rw [HW.out]; rintro e w1 ⟨rfl, hb1⟩)
                try go_wp2_with fail
                refine hK.out _ _ ?_ (fun hS2 => ?_)
                · (clear hK K; ((go_split_ands; (try dsimp only); (repeat' (with_reducible apply And.intro)) <;> (repeat (first | with_reducible assumption | with_reducible apply keep_alloc | with_reducible apply keep_drew | with_reducible refine keep_below hb1 ?_ | ((with_reducible refine keep_set ?_ ?_); rotate_left; (simp <;> omega)))))))
                clear hS hK K
                have hS := hS2
                clear hS2
                refine wpT (i := 9) (v := ?_) rfl rfl (by kernel_rfl) (by kernel_rfl) (by kernel_rfl) (fun _ _ _ h => h) (Or.inl ⟨by rfl, ?_⟩) hS ?_
                rotate_left
                · (intro w hSw; (try dsimp only at hSw); go_simp; first | done | with_reducible rfl)
                simp only [List.setIfInBounds_toArray, List.set_cons_zero, List.set_cons_succ]
                refine wpT (i := 10) (v := ?_) rfl rfl (by kernel_rfl) (by kernel_rfl) (by kernel_rfl) (fun _ _ _ h => h) (Or.inl ⟨by rfl, ?_⟩) hS ?_
                rotate_left
                · (intro w hSw; (try dsimp only at hSw); go_simp; first | done | with_reducible rfl)
                simp only [List.setIfInBounds_toArray, List.set_cons_zero, List.set_cons_succ]
                refine wpT (i := 11) (v := ?_) rfl rfl (by kernel_rfl) (by kernel_rfl) (by kernel_rfl) (fun _ _ _ h => h) (Or.inl ⟨by rfl, ?_⟩) hS ?_
                rotate_left
                · (intro w hSw; (try dsimp only at hSw); go_simp; first | done | with_reducible rfl)
                simp only [List.setIfInBounds_toArray, List.set_cons_zero, List.set_cons_succ]
                refine wpT (i := 12) (v := ?_) rfl rfl (by kernel_rfl) (by kernel_rfl) (by kernel_rfl) (fun _ _ _ h => h) (Or.inl ⟨by rfl, ?_⟩) hS ?_
                rotate_left
                · (intro w hSw; (try dsimp only at hSw); go_simp; first | done | with_reducible rfl)
                simp only [List.setIfInBounds_toArray, List.set_cons_zero, List.set_cons_succ]
                refine wpT (i := 13) (v := ?_) rfl rfl (by kernel_rfl) (by kernel_rfl) (by kernel_rfl) (fun _ _ _ h => h) (Or.inl ⟨by rfl, ?_⟩) hS ?_
                rotate_left
                · (intro w hSw; (try dsimp only at hSw); go_simp; first | done | with_reducible rfl)
                simp only [List.setIfInBounds_toArray, List.set_cons_zero, List.set_cons_succ]
                refine wpT (i := 14) (v := ?_) rfl rfl (by kernel_rfl) (by kernel_rfl) (by kernel_rfl) (fun _ _ _ h => h) (Or.inl ⟨by rfl, ?_⟩) hS ?_
                rotate_left
                · (intro w hSw; (try dsimp only at hSw); go_simp; first | done | with_reducible rfl)
                simp only [List.setIfInBounds_toArray, List.set_cons_zero, List.set_cons_succ]
                refine wpT (i := 15) (v := ?_) rfl rfl (by kernel_rfl) (by kernel_rfl) (by kernel_rfl) (fun _ _ _ h => h) (Or.inl ⟨by rfl, ?_⟩) hS ?_
                rotate_left
                · (intro w hSw; (try dsimp only at hSw); go_simp; first | done | with_reducible rfl)
                simp only [List.setIfInBounds_toArray, List.set_cons_zero, List.set_cons_succ]
                refine wpT (i := 16) (v := ?_) rfl rfl (by kernel_rfl) (by kernel_rfl) (by kernel_rfl) (fun _ _ _ h => h) (Or.inl ⟨by rfl, ?_⟩) hS ?_
                rotate_left
                · (intro w hSw; (try dsimp only at hSw); go_simp; first | done | with_reducible rfl)
                simp only [List.setIfInBounds_toArray, List.set_cons_zero, List.set_cons_succ]
                refine wpT (i := 17) (v := ?_) rfl rfl (by kernel_rfl) (by kernel_rfl) (by kernel_rfl) (fun _ _ _ h => h) (Or.inl ⟨by rfl, ?_⟩) hS ?_
                rotate_left
                · (intro w hSw; (try dsimp only at hSw); go_simp; first | done | with_reducible rfl)
                simp only [List.setIfInBounds_toArray, List.set_cons_zero, List.set_cons_succ]
                refine wpT (i := 18) (v := ?_) rfl rfl (by kernel_rfl) (by kernel_rfl) (by kernel_rfl) (fun _ _ _ h => h) (Or.inl ⟨by rfl, ?_⟩) hS ?_
                rotate_left
                · (intro w hSw; (try dsimp only at hSw); go_simp; first | done | with_reducible rfl)
                simp only [List.setIfInBounds_toArray, List.set_cons_zero, List.set_cons_succ]
                refine wpT (i := 19) (v := ?_) rfl rfl (by kernel_rfl) (by kernel_rfl) (by kernel_rfl) (fun _ _ _ h => h) (Or.inl ⟨by rfl, ?_⟩) hS ?_
                rotate_left
                · (intro w hSw; (try dsimp only at hSw); go_simp; first | done | with_reducible rfl)
                simp only [List.setIfInBounds_toArray, List.set_cons_zero, List.set_cons_succ]
                refine wpT (i := 20) (v := ?_) rfl rfl (by kernel_rfl) (by kernel_rfl) (by kernel_rfl) (fun _ _ _ h => h) (Or.inl ⟨by rfl, ?_⟩) hS ?_
                rotate_left
                · (intro w hSw; (try dsimp only at hSw); go_simp; first | done | with_reducible rfl)
                simp only [List.setIfInBounds_toArray, List.set_cons_zero, List.set_cons_succ]
                refine wpAnyH_ready (rs := [21]) (by kernel_rfl) (by simp) ?_
                refine AllReadyH.cons rfl (fun K hK => ?_) AllReadyH.nil
                go_simp
                (go_at_call 36; refine (HasCell_s _ _ _ seen _ _ _ (HRS.out.drew.below hb1) HM.out (by omega)).mono ?_; rintro e w3 ⟨rfl, hb3⟩)
                try go_wp2_with fail
                refine hK.out _ _ ?_ (fun hS2 => ?_)
                · (clear hK K; ((go_split_ands; (try dsimp only); (repeat' (with_reducible apply And.intro)) <;> (repeat (first | with_reducible assumption | with_reducible apply keep_alloc | with_reducible apply keep_drew | with_reducible refine keep_below hb3 ?_ | ((with_reducible refine keep_set ?_ ?_); rotate_left; (simp <;> omega)))))))
                clear hS hK K
                have hS := hS2
                clear hS2
                refine wpT (i := 22) (v := ?_) rfl rfl (by kernel_rfl) (by kernel_rfl) (by kernel_rfl) (fun _ _ _ h => h) (Or.inl ⟨by rfl, ?_⟩) hS ?_
                rotate_left
                · (intro w hSw; (try dsimp only at hSw); go_simp; first | done | with_reducible rfl)
                simp only [List.setIfInBounds_toArray, List.set_cons_zero, List.set_cons_succ]
                refine wpT (i := 23) (v := ?_) rfl rfl (by kernel_rfl) (by kernel_rfl) (by kernel_rfl) (fun _ _ _ h => h) (Or.inl ⟨by rfl, ?_⟩) hS ?_
                rotate_left
                · (intro w hSw; (try dsimp only at hSw); go_simp; first | done | with_reducible rfl)
                simp only [List.setIfInBounds_toArray, List.set_cons_zero, List.set_cons_succ]
                refine wpAnyH_done (by kernel_rfl) ?_ _
                refine NoPanic.normal ?_
                go_wp2_with fail
                go_meet
                exact ⟨by simp [HVV.out], (by (repeat (first | with_reducible exact Below.refl _ _ | with_reducible assumption | with_reducible apply bel_alloc | with_reducible apply bel_drew | with_reducible apply bel_drewN | ((with_reducible refine bel_set ?_ ?_); rotate_left; (simp <;> omega)) | (with_reducible refine bel_trans ?_ (by with_reducible assumption)))))⟩
            case rest =>
              obtain ⟨rfl, hb3⟩ := hcut
              cases hv : (near (x, y) (x', y') && !hasC seen x' y') with
              | true =>
                simp only [Bool.and_eq_true, Bool.not_eq_true'] at hv
                have HB2 := Lib.hid (HPU.out hv.1 hv.2)
                have e1 := keep_below hb3 d1
                have e2 := keep_below hb3 d2
                have hbw := bel_trans hb hb3
                have HO2 := Lib.hid (own_keep HO.out hb3)
                clear hv c1 c2 d1 d2 HO HRS HPU HSK
                have hbsz := hbw.size
                go_wp2_with ((at_builtin; go_must (refine app_C _ rfl _ _ rfl w.heap.size _ _ _ seen rfl (HO2.out.alloc _) _ _ _ [(x', y')] rfl (rd_newC _ _ _ _) rfl (by omega) (by simp; omega) ?_); intro A' c' w' hown' hg' hat'; have HO3 := Lib.hid hown'; have HBG := Lib.hid (bel_app (bel_alloc hbw _) hg' (fun g' hg1 => ((own_lt HO2.out) g' hg1).1)); clear hown' hg' hat'))
                exact ⟨⟨j + 1, m + 1, c', A', _, by omega, by omega, by go_num, by rw [List.length_append, HM.out]; rfl, rfl, HB2.out, HO3.out, HBG.out⟩, by simp [intOf]; omega⟩
              | false =>
                have HB2 := Lib.hid (HSK.out hv)
                have HO2 := Lib.hid (own_keep HO.out hb3)
                clear hv c1 c2 d1 d2 HO HRS HPU HSK
                go_wp2_with fail
                exact ⟨⟨j + 1, m, cap, _, seen, by omega, by omega, by go_num, HM.out, rfl, HB2.out, HO2.out, (by (repeat (first | with_reducible exact Below.refl _ _ | with_reducible assumption | with_reducible apply bel_alloc | with_reducible apply bel_drew | with_reducible apply bel_drewN | ((with_reducible refine bel_set ?_ ?_); rotate_left; (simp <;> omega)) | (with_reducible refine bel_trans ?_ (by with_reducible assumption)))))⟩, by simp [intOf]; omega⟩
          · have hjn : j = n := by omega
            have HM := Lib.hid hm
            have HF : Hid (Bfs xs seen (i + 1) 0) := hF.row (by rw [HL.out]; omega)
            have HO := Lib.hid hown
            have hj5 : ¬ (j : Int) < (n : Int) := by omega
            clear hjn hm hF hown
            go_wp2
            exact ⟨⟨i + 1, m, cap, B, seen, by omega, by go_num, HM.out, rfl, HF.out, HO.out, (by (repeat (first | with_reducible exact Below.refl _ _ | with_reducible assumption | with_reducible apply bel_alloc | with_reducible apply bel_drew | with_reducible apply bel_drewN | ((with_reducible refine bel_set ?_ ?_); rotate_left; (simp <;> omega)) | (with_reducible refine bel_trans ?_ (by with_reducible assumption)))))⟩, by simp [intOf]; omega⟩
      · have hv := hF.fin (shape_nodup HS.out) (by omega)
        have hv2 : conn xs = ((m : Int) == (n : Int)) := by
          rw [hv, hm, HL.out, Bool.eq_iff_iff, decide_eq_true_eq, beq_iff_eq]; omega
        have HV2 := Lib.hid hv2
        clear hv hv2 hF hm hown
        go_wp2
        go_ret
        exact ⟨by rw [HV.out, HV2.out]; rfl, (by (repeat (first | with_reducible exact Below.refl _ _ | with_reducible assumption | with_reducible apply bel_alloc | with_reducible apply bel_drew | with_reducible apply bel_drewN | ((with_reducible refine bel_set ?_ ?_); rotate_left; (simp <;> omega)) | (with_reducible refine bel_trans ?_ (by with_reducible assumption)))))⟩
end Go.Proofs.Yteelmhmdnljjnaa
