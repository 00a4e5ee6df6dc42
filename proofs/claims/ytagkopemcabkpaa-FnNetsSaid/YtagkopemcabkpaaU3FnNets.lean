/- Texts of this claim, one behind the other: part 3. -/
import Derived.Test.YtagkopemcabkpaaU2FnNets
import Derived.Outline
import Derived.WalkLawsBesides
import Derived.WalkSpells
import Derived.BigQuiet
import Derived.Deep.QuietTactic
import Derived.Deep.RegionHeld3
import Derived.Deep.RegionWith
import Derived.Deep.DeepCutAuto
import Derived.Deep.CutBlock
import Derived.Deep.DrawnRows
import Derived.StillTail
import Derived.OrdersHeld
import Derived.Laws.AppendOwn
/- The reference's IsConnectedShape. -/
namespace Go.Proofs.Ytagkopemcabkpaa
open Go.RowKit
set_option linter.unusedVariables false
attribute [local go_sem ↓] Go.wp_at_zero Go.wp_at_succ

set_option maxHeartbeats 1600000 in
theorem IsConnectedShape_s (A : Option Addr) (n c : Nat) (xs : List C) (w : World) (hr : Rd w A (vC xs)) (hl : xs.length = n) (hn : n ≤ 1099511627776) :
    Calls Try.prog 29 #[.slice A n c] w (Ret w (.bool (isConn xs))) := by
  have HL := Lib.hid hl
  cases hs : isShape xs with
  | false =>
    have HV : Hid (isConn xs = false) := by show isConn xs = false; unfold isConn; rw [hs]; rfl
    have HS := Lib.hid hs
    clear hs hl
    go_enter Try.func29, Try.ntmps29
    go_wp2_with (go_at_call 61; refine (IsShape_s _ _ _ xs _ hr HL.out (by omega)).mono ?_; rw [HS.out]; rintro e w1 ⟨rfl, hb1⟩)
    go_ret
    exact ⟨by rw [HV.out]; rfl, (by (repeat (first | with_reducible exact Below.refl _ _ | with_reducible assumption | with_reducible apply bel_alloc | with_reducible apply bel_drew | with_reducible apply bel_drewN | ((with_reducible refine bel_set ?_ ?_); rotate_left; (simp <;> omega)) | (with_reducible refine bel_trans ?_ (by with_reducible assumption)))))⟩
  | true =>
    have HV : Hid (isConn xs = conn xs) := by show isConn xs = conn xs; unfold isConn; rw [hs]; rfl
    have hlen := shape_len hs
    have hsm := shape_small hs
    have hn8 : n ≤ 8 := by omega
    have hn1 : 1 ≤ n := by omega
    have hnp : (0 : Int) < (n : Int) := by omega
    have h0x : 0 < xs.length := by omega
    have hI := Bfs.init xs (by omega)
    have hs0 : xs[0] = s0 xs := by simp [s0, List.getD_eq_getElem?_getD, h0x]
    have HS := Lib.hid hs
    have HSM := Lib.hid hsm
    have HI := Lib.hid hI
    have HS0 := Lib.hid hs0
    clear hs hlen hsm hl hn hI hs0
    go_enter Try.func29, Try.ntmps29
    go_wp2_with (go_at_call 61; refine (IsShape_s _ _ _ xs _ hr HL.out (by omega)).mono ?_; rw [HS.out]; rintro e w1 ⟨rfl, hb1⟩; obtain ⟨g0, off0, hA0, hg0, z1, z2⟩ := RdC.at_ (hr.below hb1) h0x; rw [HS0.out] at z1 z2; simp only [Nat.zero_mul, Nat.add_zero] at z1 z2; obtain ⟨⟨zx, zy⟩, hz⟩ : ∃ p, s0 xs = p := ⟨_, rfl⟩; rw [hz] at z1 z2; have HZ := Lib.hid hz; clear hz; subst hA0)
    have hbs := hb1.size
    go_loopw [4, 3] (fun l e wr => ∃ (i m cap : Nat) (B : Option Addr) (seen : List C), i ≤ m ∧ l = .int .i64 i ∧ seen.length = m ∧ e = .slice B m cap ∧ Bfs xs seen i 0 ∧ wr.ownsRow w.heap.size 55 2 (.slice B m cap) m (vC seen) ∧ Below w.heap.size w wr) (fun l _ _ => n - (intOf l).toNat)
    case atStart => exact ⟨0, 1, 1, _, [s0 xs], by omega, rfl, rfl, rfl, HI.out, by rw [HZ.out]; exact own_newC _ _ _ _ hbs, (by (repeat (first | with_reducible exact Below.refl _ _ | with_reducible assumption | with_reducible apply bel_alloc | with_reducible apply bel_drew | with_reducible apply bel_drewN | ((with_reducible refine bel_set ?_ ?_); rotate_left; (simp <;> omega)) | (with_reducible refine bel_trans ?_ (by with_reducible assumption)))))⟩
    case round =>
      clear HI HZ hb1 z1 z2 hg0 hbs
      obtain ⟨i, m, cap, B, seen, him, rfl, hm, rfl, hF, hown, hb⟩ := hrel
      have hmn : m ≤ n := by have := hF.len; have := HL.out; omega
      by_cases hlt : i < m
      · have HM := Lib.hid hm
        have HF := Lib.hid hF
        have HO := Lib.hid hown
        clear hm hF hown
        go_wp2
        go_loopw [5, 3] (fun l e wr => ∃ (j m cap : Nat) (B : Option Addr) (seen : List C), j ≤ n ∧ i < m ∧ l = .int .i64 j ∧ seen.length = m ∧ e = .slice B m cap ∧ Bfs xs seen i j ∧ wr.ownsRow w.heap.size 55 2 (.slice B m cap) m (vC seen) ∧ Below w.heap.size w wr) (fun l _ _ => n - (intOf l).toNat)
        case atStart => exact ⟨0, m, cap, B, seen, Nat.zero_le _, hlt, rfl, HM.out, rfl, HF.out, HO.out, hb⟩
        case round =>
          clear HM HF HO hb hmn him hlt
          obtain ⟨j, m, cap, B, seen, hj, him, rfl, hm, rfl, hF, hown, hb⟩ := hrel
          have hmn : m ≤ n := by have := hF.len; have := HL.out; omega
          by_cases hlj : j < n
          · have hix : i < seen.length := by omega
            have hjx : j < xs.length := by rw [HL.out]; omega
            have hrw := hr.below hb
            obtain ⟨g, off, hA, hgw, d1, d2⟩ := RdC.at_ hrw hjx
            simp only [Option.some.injEq, Addr.mk.injEq, and_true] at hA
            obtain ⟨rfl, rfl⟩ := hA
            have hrs := Rd.of_own hown
            obtain ⟨g2, off2, rfl, hgw2, c1, c2⟩ := RdC.at_ hrs hix
            have hne := nearS_eq (HSM.out _ (hF.sub _ (List.getElem_mem hix))) (HSM.out _ (List.getElem_mem hjx))
            have HPU : Hid (near seen[i] xs[j] = true → hasC seen xs[j].1 xs[j].2 = false → Bfs xs (seen ++ [xs[j]]) i (j + 1)) := fun h1 h2 => hF.push hix hjx h1 h2
            have HSK : Hid ((near seen[i] xs[j] && !hasC seen xs[j].1 xs[j].2) = false → Bfs xs seen i (j + 1)) := fun h1 => hF.skip hix hjx fun h2 => by rw [h2] at h1; simpa using h1
            obtain ⟨⟨x, y⟩, hx⟩ : ∃ p, seen[i] = p := ⟨_, rfl⟩
            obtain ⟨⟨x', y'⟩, hx'⟩ : ∃ p, xs[j] = p := ⟨_, rfl⟩
            rw [hx] at c1 c2
            rw [hx'] at d1 d2
            rw [hx, hx'] at hne HPU HSK
            have hi0 : (0 : Int) ≤ (i : Int) := by omega
            have hi1 : (i : Int) < (m : Int) := by omega
            have hi2 : (0 : Int) ≤ (j : Int) := by omega
            have hi3 : (j : Int) < (n : Int) := by omega
            have HM := Lib.hid hm
            have HO := Lib.hid hown
            have HW := Lib.hid hne
            have HRS := Lib.hid hrs
            clear hm hF hown hne hx hx' hrs
            go_upto_region 10 with fail
            go_cut [48] (fun s wx => s = .bool (near (x, y) (x', y') && !hasC seen x' y') ∧ Below wr.heap.size wr wx)
            case first =>
              cases hv : near (x, y) (x', y') with
              | false =>
                rw [hv] at HW
                have HVV := Lib.hid hv
                clear hv
                refine wp_region_noPanic ?_
                refine wp_region_held_drew (S := (fun w' => w'.cell? ⟨g2, off2 + i * 2, none⟩ = some (.int .i64 x) ∧ w'.cell? ⟨g2, off2 + i * 2 + 1, none⟩ = some (.int .i64 y) ∧ w'.cell? ⟨g0, off0 + j * 2, none⟩ = some (.int .i64 x') ∧ w'.cell? ⟨g0, off0 + j * 2 + 1, none⟩ = some (.int .i64 y'))) (by kernel_rfl) ?_ (fun hS => ?_)
                · ((go_split_ands; (try dsimp only); (repeat' (with_reducible apply And.intro)) <;> (repeat (first | with_reducible assumption | with_reducible apply keep_alloc | with_reducible apply keep_drew | with_reducible refine keep_below hb1 ?_ | ((with_reducible refine keep_set ?_ ?_); rotate_left; (simp <;> omega))))))
                refine wpT (i := 0) (v := ?_) rfl rfl (by kernel_rfl) (by kernel_rfl) (by kernel_rfl) (fun _ _ _ h => h) (Or.inl ⟨by rfl, ?_⟩) hS ?_
                rotate_left
                · (intro w hSw; (try dsimp only at hSw); go_simp; first | done | with_reducible rfl)
                simp only [List.setIfInBounds_toArray, List.set_cons_zero, List.set_cons_succ]
                refine wpT (i := 1) (v := ?_) rfl rfl (by kernel_rfl) (by kernel_rfl) (by kernel_rfl) (fun _ _ _ h => h) (Or.inl ⟨by rfl, ?_⟩) hS ?_
                rotate_left
                · (intro w hSw; (try dsimp only at hSw); go_simp; first | done | with_reducible rfl)
                simp only [List.setIfInBounds_toArray, List.set_cons_zero, List.set_cons_succ]
                refine wpT (i := 2) (v := ?_) rfl rfl (by kernel_rfl) (by kernel_rfl) (by kernel_rfl) (fun _ _ _ h => h) (Or.inl ⟨by rfl, ?_⟩) hS ?_
                rotate_left
                · (intro w hSw; (try dsimp only at hSw); go_simp; first | done | with_reducible rfl)
                simp only [List.setIfInBounds_toArray, List.set_cons_zero, List.set_cons_succ]
                refine wpT (i := 3) (v := ?_) rfl rfl (by kernel_rfl) (by kernel_rfl) (by kernel_rfl) (fun _ _ _ h => h) (Or.inl ⟨by rfl, ?_⟩) hS ?_
                rotate_left
                · (intro w hSw; (try dsimp only at hSw); go_simp; first | done | with_reducible rfl)
                simp only [List.setIfInBounds_toArray, List.set_cons_zero, List.set_cons_succ]
                refine wpT (i := 4) (v := ?_) rfl rfl (by kernel_rfl) (by kernel_rfl) (by kernel_rfl) (fun _ _ _ h => h) (Or.inl ⟨by rfl, ?_⟩) hS ?_
                rotate_left
                · (intro w hSw; (try dsimp only at hSw); go_simp; first | done | with_reducible rfl)
                simp only [List.setIfInBounds_toArray, List.set_cons_zero, List.set_cons_succ]
                refine wpT (i := 5) (v := ?_) rfl rfl (by kernel_rfl) (by kernel_rfl) (by kernel_rfl) (fun _ _ _ h => h) (Or.inl ⟨by rfl, ?_⟩) hS ?_
                rotate_left
                · (intro w hSw; (try dsimp only at hSw); go_simp; first | done | with_reducible rfl)
                simp only [List.setIfInBounds_toArray, List.set_cons_zero, List.set_cons_succ]
                refine wpT (i := 6) (v := ?_) rfl rfl (by kernel_rfl) (by kernel_rfl) (by kernel_rfl) (fun _ _ _ h => h) (Or.inl ⟨by rfl, ?_⟩) hS ?_
                rotate_left
                · (intro w hSw; (try dsimp only at hSw); go_simp; first | done | with_reducible rfl)
                simp only [List.setIfInBounds_toArray, List.set_cons_zero, List.set_cons_succ]
                refine wpT (i := 7) (v := ?_) rfl rfl (by kernel_rfl) (by kernel_rfl) (by kernel_rfl) (fun _ _ _ h => h) (Or.inl ⟨by rfl, ?_⟩) hS ?_
                rotate_left
                · (intro w hSw; (try dsimp only at hSw); go_simp; first | done | with_reducible rfl)
                simp only [List.setIfInBounds_toArray, List.set_cons_zero, List.set_cons_succ]
                refine wpAnyH_ready (rs := [8]) (by kernel_rfl) (by simp) ?_
                refine AllReadyH.cons rfl (fun K hK => ?_) AllReadyH.nil
                go_simp
                (go_at_call 66; refine (l2Near_s _ _ _ _ _).mono ?_; rw [HW.out]; rintro e w1 ⟨rfl, hb1⟩)
                try go_wp2_with fail
                refine hK.out _ _ ?_ (fun hS2 => ?_)
                · (clear hK K; ((go_split_ands; (try dsimp only); (repeat' (with_reducible apply And.intro)) <;> (repeat (first | with_reducible assumption | with_reducible apply keep_alloc | with_reducible apply keep_drew | with_reducible refine keep_below hb1 ?_ | ((with_reducible refine keep_set ?_ ?_); rotate_left; (simp <;> omega)))))))
                clear hS hK K
                have hS := hS2
                clear hS2
                refine wpT (i := 9) (v := ?_) rfl rfl (by kernel_rfl) (by kernel_rfl) (by kernel_rfl) (fun _ _ _ h => h) (Or.inl ⟨by rfl, ?_⟩) hS ?_
                rotate_left
                · (intro w hSw; (try dsimp only at hSw); go_simp; first | done | with_reducible rfl)
                simp only [List.setIfInBounds_toArray, List.set_cons_zero, List.set_cons_succ]
                refine wpT (i := 10) (v := undef) rfl rfl (by kernel_rfl) (by kernel_rfl) (by kernel_rfl) (fun _ _ _ h => h) (Or.inr ⟨by rfl, rfl⟩) hS ?_
                simp only [List.setIfInBounds_toArray, List.set_cons_zero, List.set_cons_succ]
                refine wpT (i := 11) (v := undef) rfl rfl (by kernel_rfl) (by kernel_rfl) (by kernel_rfl) (fun _ _ _ h => h) (Or.inr ⟨by rfl, rfl⟩) hS ?_
                simp only [List.setIfInBounds_toArray, List.set_cons_zero, List.set_cons_succ]
                refine wpT (i := 12) (v := undef) rfl rfl (by kernel_rfl) (by kernel_rfl) (by kernel_rfl) (fun _ _ _ h => h) (Or.inr ⟨by rfl, rfl⟩) hS ?_
                simp only [List.setIfInBounds_toArray, List.set_cons_zero, List.set_cons_succ]
                refine wpT (i := 13) (v := undef) rfl rfl (by kernel_rfl) (by kernel_rfl) (by kernel_rfl) (fun _ _ _ h => h) (Or.inr ⟨by rfl, rfl⟩) hS ?_
                simp only [List.setIfInBounds_toArray, List.set_cons_zero, List.set_cons_succ]
                refine wpT (i := 14) (v := undef) rfl rfl (by kernel_rfl) (by kernel_rfl) (by kernel_rfl) (fun _ _ _ h => h) (Or.inr ⟨by rfl, rfl⟩) hS ?_
                simp only [List.setIfInBounds_toArray, List.set_cons_zero, List.set_cons_succ]
                refine wpT (i := 15) (v := undef) rfl rfl (by kernel_rfl) (by kernel_rfl) (by kernel_rfl) (fun _ _ _ h => h) (Or.inr ⟨by rfl, rfl⟩) hS ?_
                simp only [List.setIfInBounds_toArray, List.set_cons_zero, List.set_cons_succ]
                refine wpT (i := 16) (v := undef) rfl rfl (by kernel_rfl) (by kernel_rfl) (by kernel_rfl) (fun _ _ _ h => h) (Or.inr ⟨by rfl, rfl⟩) hS ?_
                simp only [List.setIfInBounds_toArray, List.set_cons_zero, List.set_cons_succ]
                refine wpT (i := 17) (v := undef) rfl rfl (by kernel_rfl) (by kernel_rfl) (by kernel_rfl) (fun _ _ _ h => h) (Or.inr ⟨by rfl, rfl⟩) hS ?_
                simp only [List.setIfInBounds_toArray, List.set_cons_zero, List.set_cons_succ]
                refine wpT (i := 18) (v := undef) rfl rfl (by kernel_rfl) (by kernel_rfl) (by kernel_rfl) (fun _ _ _ h => h) (Or.inr ⟨by rfl, rfl⟩) hS ?_
                simp only [List.setIfInBounds_toArray, List.set_cons_zero, List.set_cons_succ]
                refine wpT (i := 19) (v := undef) rfl rfl (by kernel_rfl) (by kernel_rfl) (by kernel_rfl) (fun _ _ _ h => h) (Or.inr ⟨by rfl, rfl⟩) hS ?_
                simp only [List.setIfInBounds_toArray, List.set_cons_zero, List.set_cons_succ]
                refine wpT (i := 20) (v := undef) rfl rfl (by kernel_rfl) (by kernel_rfl) (by kernel_rfl) (fun _ _ _ h => h) (Or.inr ⟨by rfl, rfl⟩) hS ?_
                simp only [List.setIfInBounds_toArray, List.set_cons_zero, List.set_cons_succ]
                refine wpT (i := 21) (v := undef) rfl rfl (by kernel_rfl) (by kernel_rfl) (by kernel_rfl) (fun _ _ _ h => h) (Or.inr ⟨by rfl, rfl⟩) hS ?_
                simp only [List.setIfInBounds_toArray, List.set_cons_zero, List.set_cons_succ]
                refine wpT (i := 22) (v := undef) rfl rfl (by kernel_rfl) (by kernel_rfl) (by kernel_rfl) (fun _ _ _ h => h) (Or.inr ⟨by rfl, rfl⟩) hS ?_
                simp only [List.setIfInBounds_toArray, List.set_cons_zero, List.set_cons_succ]
                refine wpT (i := 23) (v := ?_) rfl rfl (by kernel_rfl) (by kernel_rfl) (by kernel_rfl) (fun _ _ _ h => h) (Or.inl ⟨by rfl, ?_⟩) hS ?_
                rotate_left
                · (intro w hSw; (try dsimp only at hSw); go_simp; first | done | with_reducible rfl)
                simp only [List.setIfInBounds_toArray, List.set_cons_zero, List.set_cons_succ]
                refine wpAnyH_done (by kernel_rfl) ?_ _
                refine NoPanic.normal ?_
                go_wp2_with fail
                go_meet
                exact ⟨by rw [HVV.out]; rfl, (by (repeat (first | with_reducible exact Below.refl _ _ | with_reducible assumption | with_reducible apply bel_alloc | with_reducible apply bel_drew | with_reducible apply bel_drewN | ((with_reducible refine bel_set ?_ ?_); rotate_left; (simp <;> omega)) | (with_reducible refine bel_trans ?_ (by with_reducible assumption)))))⟩
              | true =>
                rw [hv] at HW
                have HVV := Lib.hid hv
                clear hv
                refine wp_region_noPanic ?_
                refine wp_region_held_drew (S := (fun w' => w'.cell? ⟨g2, off2 + i * 2, none⟩ = some (.int .i64 x) ∧ w'.cell? ⟨g2, off2 + i * 2 + 1, none⟩ = some (.int .i64 y) ∧ w'.cell? ⟨g0, off0 + j * 2, none⟩ = some (.int .i64 x') ∧ w'.cell? ⟨g0, off0 + j * 2 + 1, none⟩ = some (.int .i64 y'))) (by kernel_rfl) ?_ (fun hS => ?_)
                · ((go_split_ands; (try dsimp only); (repeat' (with_reducible apply And.intro)) <;> (repeat (first | with_reducible assumption | with_reducible apply keep_alloc | with_reducible apply keep_drew | with_reducible refine keep_below hb1 ?_ | ((with_reducible refine keep_set ?_ ?_); rotate_left; (simp <;> omega))))))
                refine wpT (i := 0) (v := ?_) rfl rfl (by kernel_rfl) (by kernel_rfl) (by kernel_rfl) (fun _ _ _ h => h) (Or.inl ⟨by rfl, ?_⟩) hS ?_
                rotate_left
                · (intro w hSw; (try dsimp only at hSw); go_simp; first | done | with_reducible rfl)
                simp only [List.setIfInBounds_toArray, List.set_cons_zero, List.set_cons_succ]
                refine wpT (i := 1) (v := ?_) rfl rfl (by kernel_rfl) (by kernel_rfl) (by kernel_rfl) (fun _ _ _ h => h) (Or.inl ⟨by rfl, ?_⟩) hS ?_
                rotate_left
                · (intro w hSw; (try dsimp only at hSw); go_simp; first | done | with_reducible rfl)
                simp only [List.setIfInBounds_toArray, List.set_cons_zero, List.set_cons_succ]
                refine wpT (i := 2) (v := ?_) rfl rfl (by kernel_rfl) (by kernel_rfl) (by kernel_rfl) (fun _ _ _ h => h) (Or.inl ⟨by rfl, ?_⟩) hS ?_
                rotate_left
                · (intro w hSw; (try dsimp only at hSw); go_simp; first | done | with_reducible rfl)
                simp only [List.setIfInBounds_toArray, List.set_cons_zero, List.set_cons_succ]
                refine wpT (i := 3) (v := ?_) rfl rfl (by kernel_rfl) (by kernel_rfl) (by kernel_rfl) (fun _ _ _ h => h) (Or.inl ⟨by rfl, ?_⟩) hS ?_
                rotate_left
                · (intro w hSw; (try dsimp only at hSw); go_simp; first | done | with_reducible rfl)
                simp only [List.setIfInBounds_toArray, List.set_cons_zero, List.set_cons_succ]
                refine wpT (i := 4) (v := ?_) rfl rfl (by kernel_rfl) (by kernel_rfl) (by kernel_rfl) (fun _ _ _ h => h) (Or.inl ⟨by rfl, ?_⟩) hS ?_
                rotate_left
                · (intro w hSw; (try dsimp only at hSw); go_simp; first | done | with_reducible rfl)
                simp only [List.setIfInBounds_toArray, List.set_cons_zero, List.set_cons_succ]
                refine wpT (i := 5) (v := ?_) rfl rfl (by kernel_rfl) (by kernel_rfl) (by kernel_rfl) (fun _ _ _ h => h) (Or.inl ⟨by rfl, ?_⟩) hS ?_
                rotate_left
                · (intro w hSw; (try dsimp only at hSw); go_simp; first | done | with_reducible rfl)
                simp only [List.setIfInBounds_toArray, List.set_cons_zero, List.set_cons_succ]
                refine wpT (i := 6) (v := ?_) rfl rfl (by kernel_rfl) (by kernel_rfl) (by kernel_rfl) (fun _ _ _ h => h) (Or.inl ⟨by rfl, ?_⟩) hS ?_
                rotate_left
                · (intro w hSw; (try dsimp only at hSw); go_simp; first | done | with_reducible rfl)
                simp only [List.setIfInBounds_toArray, List.set_cons_zero, List.set_cons_succ]
                refine wpT (i := 7) (v := ?_) rfl rfl (by kernel_rfl) (by kernel_rfl) (by kernel_rfl) (fun _ _ _ h => h) (Or.inl ⟨by rfl, ?_⟩) hS ?_
                rotate_left
                · (intro w hSw; (try dsimp only at hSw); go_simp; first | done | with_reducible rfl)
                simp only [List.setIfInBounds_toArray, List.set_cons_zero, List.set_cons_succ]
                refine wpAnyH_ready (rs := [8]) (by kernel_rfl) (by simp) ?_
                refine AllReadyH.cons rfl (fun K hK => ?_) AllReadyH.nil
                go_simp
                (go_at_call 66; refine (l2Near_s _ _ _ _ _).mono ?_; rw [HW.out]; rintro e w1 ⟨rfl, hb1⟩)
                try go_wp2_with fail
                refine hK.out _ _ ?_ (fun hS2 => ?_)
                · (clear hK K; ((go_split_ands; (try dsimp only); (repeat' (with_reducible apply And.intro)) <;> (repeat (first | with_reducible assumption | with_reducible apply keep_alloc | with_reducible apply keep_drew | with_reducible refine keep_below hb1 ?_ | ((with_reducible refine keep_set ?_ ?_); rotate_left; (simp <;> omega)))))))
                clear hS hK K
                have hS := hS2
                clear hS2
                refine wpT (i := 9) (v := ?_) rfl rfl (by kernel_rfl) (by kernel_rfl) (by kernel_rfl) (fun _ _ _ h => h) (Or.inl ⟨by rfl, ?_⟩) hS ?_
                rotate_left
                · (intro w hSw; (try dsimp only at hSw); go_simp; first | done | with_reducible rfl)
                simp only [List.setIfInBounds_toArray, List.set_cons_zero, List.set_cons_succ]
                refine wpT (i := 10) (v := ?_) rfl rfl (by kernel_rfl) (by kernel_rfl) (by kernel_rfl) (fun _ _ _ h => h) (Or.inl ⟨by rfl, ?_⟩) hS ?_
                rotate_left
                · (intro w hSw; (try dsimp only at hSw); go_simp; first | done | with_reducible rfl)
                simp only [List.setIfInBounds_toArray, List.set_cons_zero, List.set_cons_succ]
                refine wpT (i := 11) (v := ?_) rfl rfl (by kernel_rfl) (by kernel_rfl) (by kernel_rfl) (fun _ _ _ h => h) (Or.inl ⟨by rfl, ?_⟩) hS ?_
                rotate_left
                · (intro w hSw; (try dsimp only at hSw); go_simp; first | done | with_reducible rfl)
                simp only [List.setIfInBounds_toArray, List.set_cons_zero, List.set_cons_succ]
                refine wpT (i := 12) (v := ?_) rfl rfl (by kernel_rfl) (by kernel_rfl) (by kernel_rfl) (fun _ _ _ h => h) (Or.inl ⟨by rfl, ?_⟩) hS ?_
                rotate_left
                · (intro w hSw; (try dsimp only at hSw); go_simp; first | done | with_reducible rfl)
                simp only [List.setIfInBounds_toArray, List.set_cons_zero, List.set_cons_succ]
                refine wpT (i := 13) (v := ?_) rfl rfl (by kernel_rfl) (by kernel_rfl) (by kernel_rfl) (fun _ _ _ h => h) (Or.inl ⟨by rfl, ?_⟩) hS ?_
                rotate_left
                · (intro w hSw; (try dsimp only at hSw); go_simp; first | done | with_reducible rfl)
                simp only [List.setIfInBounds_toArray, List.set_cons_zero, List.set_cons_succ]
                refine wpT (i := 14) (v := ?_) rfl rfl (by kernel_rfl) (by kernel_rfl) (by kernel_rfl) (fun _ _ _ h => h) (Or.inl ⟨by rfl, ?_⟩) hS ?_
                rotate_left
                · (intro w hSw; (try dsimp only at hSw); go_simp; first | done | with_reducible rfl)
                simp only [List.setIfInBounds_toArray, List.set_cons_zero, List.set_cons_succ]
                refine wpT (i := 15) (v := ?_) rfl rfl (by kernel_rfl) (by kernel_rfl) (by kernel_rfl) (fun _ _ _ h => h) (Or.inl ⟨by rfl, ?_⟩) hS ?_
                rotate_left
                · (intro w hSw; (try dsimp only at hSw); go_simp; first | done | with_reducible rfl)
                simp only [List.setIfInBounds_toArray, List.set_cons_zero, List.set_cons_succ]
                refine wpT (i := 16) (v := ?_) rfl rfl (by kernel_rfl) (by kernel_rfl) (by kernel_rfl) (fun _ _ _ h => h) (Or.inl ⟨by rfl, ?_⟩) hS ?_
                rotate_left
                · (intro w hSw; (try dsimp only at hSw); go_simp; first | done | with_reducible rfl)
                simp only [List.setIfInBounds_toArray, List.set_cons_zero, List.set_cons_succ]
                refine wpT (i := 17) (v := ?_) rfl rfl (by kernel_rfl) (by kernel_rfl) (by kernel_rfl) (fun _ _ _ h => h) (Or.inl ⟨by rfl, ?_⟩) hS ?_
                rotate_left
                · (intro w hSw; (try dsimp only at hSw); go_simp; first | done | with_reducible rfl)
                simp only [List.setIfInBounds_toArray, List.set_cons_zero, List.set_cons_succ]
                refine wpT (i := 18) (v := ?_) rfl rfl (by kernel_rfl) (by kernel_rfl) (by kernel_rfl) (fun _ _ _ h => h) (Or.inl ⟨by rfl, ?_⟩) hS ?_
                rotate_left
                · (intro w hSw; (try dsimp only at hSw); go_simp; first | done | with_reducible rfl)
                simp only [List.setIfInBounds_toArray, List.set_cons_zero, List.set_cons_succ]
                refine wpT (i := 19) (v := ?_) rfl rfl (by kernel_rfl) (by kernel_rfl) (by kernel_rfl) (fun _ _ _ h => h) (Or.inl ⟨by rfl, ?_⟩) hS ?_
                rotate_left
                · (intro w hSw; (try dsimp only at hSw); go_simp; first | done | with_reducible rfl)
                simp only [List.setIfInBounds_toArray, List.set_cons_zero, List.set_cons_succ]
                refine wpT (i := 20) (v := ?_) rfl rfl (by kernel_rfl) (by kernel_rfl) (by kernel_rfl) (fun _ _ _ h => h) (Or.inl ⟨by rfl, ?_⟩) hS ?_
                rotate_left
                · (intro w hSw; (try dsimp only at hSw); go_simp; first | done | with_reducible rfl)
                simp only [List.setIfInBounds_toArray, List.set_cons_zero, List.set_cons_succ]
                refine wpAnyH_ready (rs := [21]) (by kernel_rfl) (by simp) ?_
                refine AllReadyH.cons rfl (fun K hK => ?_) AllReadyH.nil
                go_simp
                (go_at_call 56; refine (HasCell_s _ _ _ seen _ _ _ (HRS.out.drew.below hb1) HM.out (by omega)).mono ?_; rintro e w3 ⟨rfl, hb3⟩)
                try go_wp2_with fail
                refine hK.out _ _ ?_ (fun hS2 => ?_)
                · (clear hK K; ((go_split_ands; (try dsimp only); (repeat' (with_reducible apply And.intro)) <;> (repeat (first | with_reducible assumption | with_reducible apply keep_alloc | with_reducible apply keep_drew | with_reducible refine keep_below hb3 ?_ | ((with_reducible refine keep_set ?_ ?_); rotate_left; (simp <;> omega)))))))
                clear hS hK K
                have hS := hS2
                clear hS2
                refine wpT (i := 22) (v := ?_) rfl rfl (by kernel_rfl) (by kernel_rfl) (by kernel_rfl) (fun _ _ _ h => h) (Or.inl ⟨by rfl, ?_⟩) hS ?_
                rotate_left
                · (intro w hSw; (try dsimp only at hSw); go_simp; first | done | with_reducible rfl)
                simp only [List.setIfInBounds_toArray, List.set_cons_zero, List.set_cons_succ]
                refine wpT (i := 23) (v := ?_) rfl rfl (by kernel_rfl) (by kernel_rfl) (by kernel_rfl) (fun _ _ _ h => h) (Or.inl ⟨by rfl, ?_⟩) hS ?_
                rotate_left
                · (intro w hSw; (try dsimp only at hSw); go_simp; first | done | with_reducible rfl)
                simp only [List.setIfInBounds_toArray, List.set_cons_zero, List.set_cons_succ]
                refine wpAnyH_done (by kernel_rfl) ?_ _
                refine NoPanic.normal ?_
                go_wp2_with fail
                go_meet
                exact ⟨by simp [HVV.out], (by (repeat (first | with_reducible exact Below.refl _ _ | with_reducible assumption | with_reducible apply bel_alloc | with_reducible apply bel_drew | with_reducible apply bel_drewN | ((with_reducible refine bel_set ?_ ?_); rotate_left; (simp <;> omega)) | (with_reducible refine bel_trans ?_ (by with_reducible assumption)))))⟩
            case rest =>
              obtain ⟨rfl, hb3⟩ := hcut
              cases hv : (near (x, y) (x', y') && !hasC seen x' y') with
              | true =>
                simp only [Bool.and_eq_true, Bool.not_eq_true'] at hv
                have HB2 := Lib.hid (HPU.out hv.1 hv.2)
                have e1 := keep_below hb3 d1
                have e2 := keep_below hb3 d2
                have hbw := bel_trans hb hb3
                have HO2 := Lib.hid (own_keep HO.out hb3)
                clear hv c1 c2 d1 d2 HO HRS HPU HSK
                have hbsz := hbw.size
                go_wp2_with ((at_builtin; go_must (refine app_C _ rfl _ _ rfl w.heap.size _ _ _ seen rfl (HO2.out.alloc _) _ _ _ [(x', y')] rfl (rd_newC _ _ _ _) rfl (by omega) (by simp; omega) ?_); intro A' c' w' hown' hg' hat'; have HO3 := Lib.hid hown'; have HBG := Lib.hid (bel_app (bel_alloc hbw _) hg' (fun g' hg1 => ((own_lt HO2.out) g' hg1).1)); clear hown' hg' hat'))
                exact ⟨⟨j + 1, m + 1, c', A', _, by omega, by omega, by go_num, by rw [List.length_append, HM.out]; rfl, rfl, HB2.out, HO3.out, HBG.out⟩, by simp [intOf]; omega⟩
              | false =>
                have HB2 := Lib.hid (HSK.out hv)
                have HO2 := Lib.hid (own_keep HO.out hb3)
                clear hv c1 c2 d1 d2 HO HRS HPU HSK
                go_wp2_with fail
                exact ⟨⟨j + 1, m, cap, _, seen, by omega, by omega, by go_num, HM.out, rfl, HB2.out, HO2.out, (by (repeat (first | with_reducible exact Below.refl _ _ | with_reducible assumption | with_reducible apply bel_alloc | with_reducible apply bel_drew | with_reducible apply bel_drewN | ((with_reducible refine bel_set ?_ ?_); rotate_left; (simp <;> omega)) | (with_reducible refine bel_trans ?_ (by with_reducible assumption)))))⟩, by simp [intOf]; omega⟩
          · have hjn : j = n := by omega
            have HM := Lib.hid hm
            have HF : Hid (Bfs xs seen (i + 1) 0) := hF.row (by rw [HL.out]; omega)
            have HO := Lib.hid hown
            have hj5 : ¬ (j : Int) < (n : Int) := by omega
            clear hjn hm hF hown
            go_wp2
            exact ⟨⟨i + 1, m, cap, B, seen, by omega, by go_num, HM.out, rfl, HF.out, HO.out, (by (repeat (first | with_reducible exact Below.refl _ _ | with_reducible assumption | with_reducible apply bel_alloc | with_reducible apply bel_drew | with_reducible apply bel_drewN | ((with_reducible refine bel_set ?_ ?_); rotate_left; (simp <;> omega)) | (with_reducible refine bel_trans ?_ (by with_reducible assumption)))))⟩, by simp [intOf]; omega⟩
      · have hv := hF.fin (shape_nodup HS.out) (by omega)
        have hv2 : conn xs = ((m : Int) == (n : Int)) := by
          rw [hv, hm, HL.out, Bool.eq_iff_iff, decide_eq_true_eq, beq_iff_eq]; omega
        have HV2 := Lib.hid hv2
        clear hv hv2 hF hm hown
        go_wp2
        go_ret
        exact ⟨by rw [HV.out, HV2.out]; rfl, (by (repeat (first | with_reducible exact Below.refl _ _ | with_reducible assumption | with_reducible apply bel_alloc | with_reducible apply bel_drew | with_reducible apply bel_drewN | ((with_reducible refine bel_set ?_ ?_); rotate_left; (simp <;> omega)) | (with_reducible refine bel_trans ?_ (by with_reducible assumption)))))⟩
end Go.Proofs.Ytagkopemcabkpaa

/- Inner sides: walks. -/
namespace Go.Proofs.Ytagkopemcabkpaa
open Go.RowKit
set_option linter.unusedVariables false
attribute [local go_sem ↓] Go.wp_at_zero Go.wp_at_succ

def innerV (xs : List C) : Nat := if isShape xs then inner xs xs.length else 0
set_option maxHeartbeats 800000 in
theorem InnerSides_i (A : Option Addr) (n c : Nat) (xs : List C) (w : World) (hr : Rd w A (vC xs)) (hl : xs.length = n) (hn : n ≤ 1099511627776) :
    Calls Try.prog 79 #[.slice A n c] w (Ret w (.int .i64 (innerV xs : Nat))) := by
  have HL := Lib.hid hl
  cases hs : isShape xs with
  | false =>
    have HV : Hid (innerV xs = 0) := by show innerV xs = 0; unfold innerV; rw [hs]; rfl
    have HS := Lib.hid hs
    clear hs hl
    go_enter Try.func79, Try.ntmps79
    go_wp2_with (go_at_call 60; refine (IsShape_i _ _ _ xs _ hr HL.out (by omega)).mono ?_; rw [HS.out]; rintro e w1 ⟨rfl, hb1⟩)
    go_ret
    exact ⟨by rw [HV.out]; rfl, (by (repeat (first | with_reducible exact Below.refl _ _ | with_reducible assumption | with_reducible apply bel_alloc | with_reducible apply bel_drew | with_reducible apply bel_drewN | ((with_reducible refine bel_set ?_ ?_); rotate_left; (simp <;> omega)) | (with_reducible refine bel_trans ?_ (by with_reducible assumption)))))⟩
  | true =>
    have HV : Hid (innerV xs = inner xs n) := by show innerV xs = inner xs n; unfold innerV; rw [hs, hl]; rfl
    have hlen := shape_len hs
    have hsm := shape_small hs
    have hn8 : n ≤ 8 := by omega
    have hn1 : 1 ≤ n := by omega
    have HS := Lib.hid hs
    have HSM := Lib.hid hsm
    clear hs hlen hsm hl hn
    go_enter Try.func79, Try.ntmps79
    go_wp2_with (go_at_call 60; refine (IsShape_i _ _ _ xs _ hr HL.out (by omega)).mono ?_; rw [HS.out]; rintro e w1 ⟨rfl, hb1⟩)
    go_loopw [11, 3] (fun i s wr => ∃ k q : Nat, k ≤ n ∧ i = .int .i64 k ∧ s = .int .i64 q ∧ q = inner xs k ∧ Below w.heap.size w wr) (fun i _ _ => n - (intOf i).toNat)
    case atStart => exact ⟨0, 0, Nat.zero_le _, rfl, rfl, rfl, (by (repeat (first | with_reducible exact Below.refl _ _ | with_reducible assumption | with_reducible apply bel_alloc | with_reducible apply bel_drew | with_reducible apply bel_drewN | ((with_reducible refine bel_set ?_ ?_); rotate_left; (simp <;> omega)) | (with_reducible refine bel_trans ?_ (by with_reducible assumption)))))⟩
    case round =>
      obtain ⟨k, q, hk, rfl, rfl, hq, hb⟩ := hrel
      by_cases hlt : k < n
      · have hkx : k < xs.length := by rw [HL.out]; omega
        have hin : inner xs (k + 1) = inner xs k + (xs.take k).countP fun d => near xs[k] d := by
          simp only [inner]
          rw [List.getD_eq_getElem?_getD, List.getElem?_eq_getElem hkx]; rfl
        have hi0 : (0 : Int) ≤ (k : Int) := by omega
        have hi1 : (k : Int) < (n : Int) := by omega
        have hile := inner_le xs k (by omega)
        have HQ := Lib.hid hq
        have HIN := Lib.hid hin
        have hq64 : q ≤ 64 := by omega
        clear hq hin hile
        go_wp2
        go_loopw [15, 3] (fun i s wr => ∃ j p : Nat, j ≤ k ∧ i = .int .i64 j ∧ s = .int .i64 p ∧ p = q + ((xs.take j).countP fun d => near xs[k] d) ∧ Below w.heap.size w wr) (fun i _ _ => k - (intOf i).toNat)
        case atStart => exact ⟨0, q, Nat.zero_le _, rfl, rfl, rfl, (by (repeat (first | with_reducible exact Below.refl _ _ | with_reducible assumption | with_reducible apply bel_alloc | with_reducible apply bel_drew | with_reducible apply bel_drewN | ((with_reducible refine bel_set ?_ ?_); rotate_left; (simp <;> omega)) | (with_reducible refine bel_trans ?_ (by with_reducible assumption)))))⟩
        case round =>
          clear hb
          obtain ⟨j, p, hj, rfl, rfl, hp, hb⟩ := hrel
          by_cases hlj : j < k
          · have hjx : j < xs.length := by omega
            have hrw := hr.below hb
            obtain ⟨g, off, rfl, hgw, c1, c2⟩ := RdC.at_ hrw hkx
            have d12 : wr.cell? ⟨g, off + j * 2, none⟩ = some (.int .i64 xs[j].1) ∧ wr.cell? ⟨g, off + j * 2 + 1, none⟩ = some (.int .i64 xs[j].2) := by
              obtain ⟨g', off', e, _, h1, h2⟩ := RdC.at_ hrw hjx
              simp only [Option.some.injEq, Addr.mk.injEq, and_true] at e
              obtain ⟨rfl, rfl⟩ := e
              exact ⟨h1, h2⟩
            obtain ⟨d1, d2⟩ := d12
            have ht := countP_take (fun d => near xs[k] d) xs j hjx
            have hne := nearI_eq (HSM.out _ (List.getElem_mem hkx)) (HSM.out _ (List.getElem_mem hjx))
            have hpb : ((xs.take j).countP fun d => near xs[k] d) ≤ j := Nat.le_trans (countP_le' _ _) (by rw [List.length_take]; omega)
            have hp2 : p ≤ 80 := by omega
            obtain ⟨⟨x, y⟩, hx⟩ : ∃ p, xs[k] = p := ⟨_, rfl⟩
            obtain ⟨⟨x', y'⟩, hx'⟩ : ∃ p, xs[j] = p := ⟨_, rfl⟩
            rw [hx] at c1 c2
            rw [hx'] at d1 d2
            rw [hx'] at ht
            rw [hx, hx'] at hne
            have hi2 : (0 : Int) ≤ (j : Int) := by omega
            have hi3 : (j : Int) < (n : Int) := by omega
            cases hv : near (x, y) (x', y') with
            | true =>
              have HP : Hid (p + 1 = q + ((xs.take (j + 1)).countP fun d => near xs[k] d)) := by
                unfold Hid
                rw [ht, hx, hv]
                rw [hx] at hp
                simp only [if_true]
                omega
              rw [hv] at hne
              have HW := Lib.hid hne
              clear ht hx hx' hp hpb hne hv
              go_wp2_with fail
              go_region_held3 (fun w' => w'.cell? ⟨g, off + k * 2, none⟩ = some (.int .i64 x) ∧ w'.cell? ⟨g, off + k * 2 + 1, none⟩ = some (.int .i64 y) ∧ w'.cell? ⟨g, off + j * 2, none⟩ = some (.int .i64 x') ∧ w'.cell? ⟨g, off + j * 2 + 1, none⟩ = some (.int .i64 y'))
                ((go_split_ands; (try dsimp only); (repeat' (with_reducible apply And.intro)) <;> (repeat (first | with_reducible assumption | with_reducible apply keep_alloc | with_reducible apply keep_drew | with_reducible refine keep_below hb1 ?_ | ((with_reducible refine keep_set ?_ ?_); rotate_left; (simp <;> omega)))))) (first | (go_at_call 89; refine (beside_i _ _ _ _ _).mono ?_; rw [HW.out]; rintro e w1 ⟨rfl, hb1⟩))
              go_wp2
              exact ⟨⟨j + 1, p + 1, by omega, by go_num, by go_num, HP.out, (by (repeat (first | with_reducible exact Below.refl _ _ | with_reducible assumption | with_reducible apply bel_alloc | with_reducible apply bel_drew | with_reducible apply bel_drewN | ((with_reducible refine bel_set ?_ ?_); rotate_left; (simp <;> omega)) | (with_reducible refine bel_trans ?_ (by with_reducible assumption)))))⟩, by simp [intOf]; omega⟩
            | false =>
              have HP : Hid (p = q + ((xs.take (j + 1)).countP fun d => near xs[k] d)) := by
                unfold Hid
                rw [ht, hx, hv]
                rw [hx] at hp
                simp only [Bool.false_eq_true, if_false]
                omega
              rw [hv] at hne
              have HW := Lib.hid hne
              clear ht hx hx' hp hpb hne hv
              go_wp2_with fail
              go_region_held3 (fun w' => w'.cell? ⟨g, off + k * 2, none⟩ = some (.int .i64 x) ∧ w'.cell? ⟨g, off + k * 2 + 1, none⟩ = some (.int .i64 y) ∧ w'.cell? ⟨g, off + j * 2, none⟩ = some (.int .i64 x') ∧ w'.cell? ⟨g, off + j * 2 + 1, none⟩ = some (.int .i64 y'))
                ((go_split_ands; (try dsimp only); (repeat' (with_reducible apply And.intro)) <;> (repeat (first | with_reducible assumption | with_reducible apply keep_alloc | with_reducible apply keep_drew | with_reducible refine keep_below hb1 ?_ | ((with_reducible refine keep_set ?_ ?_); rotate_left; (simp <;> omega)))))) (first | (go_at_call 89; refine (beside_i _ _ _ _ _).mono ?_; rw [HW.out]; rintro e w1 ⟨rfl, hb1⟩))
              go_wp2
              exact ⟨⟨j + 1, p, by omega, by go_num, rfl, HP.out, (by (repeat (first | with_reducible exact Below.refl _ _ | with_reducible assumption | with_reducible apply bel_alloc | with_reducible apply bel_drew | with_reducible apply bel_drewN | ((with_reducible refine bel_set ?_ ?_); rotate_left; (simp <;> omega)) | (with_reducible refine bel_trans ?_ (by with_reducible assumption)))))⟩, by simp [intOf]; omega⟩
          · have hjk : j = k := by omega
            have HP : Hid (p = inner xs (k + 1)) := by
              unfold Hid
              rw [HIN.out, hp, HQ.out, hjk]
            have hj5 : ¬ (j : Int) < (k : Int) := by omega
            clear hjk hp
            go_wp2
            exact ⟨⟨k + 1, p, by omega, by go_num, rfl, HP.out, (by (repeat (first | with_reducible exact Below.refl _ _ | with_reducible assumption | with_reducible apply bel_alloc | with_reducible apply bel_drew | with_reducible apply bel_drewN | ((with_reducible refine bel_set ?_ ?_); rotate_left; (simp <;> omega)) | (with_reducible refine bel_trans ?_ (by with_reducible assumption)))))⟩, by simp [intOf]; omega⟩
      · have hkk : k = n := by omega
        subst hkk
        have HQ := Lib.hid hq
        clear hq
        go_wp2
        go_ret
        exact ⟨by rw [HV.out, ← HQ.out]; rfl, (by (repeat (first | with_reducible exact Below.refl _ _ | with_reducible assumption | with_reducible apply bel_alloc | with_reducible apply bel_drew | with_reducible apply bel_drewN | ((with_reducible refine bel_set ?_ ?_); rotate_left; (simp <;> omega)) | (with_reducible refine bel_trans ?_ (by with_reducible assumption)))))⟩
set_option maxHeartbeats 800000 in
theorem InnerSides_s (A : Option Addr) (n c : Nat) (xs : List C) (w : World) (hr : Rd w A (vC xs)) (hl : xs.length = n) (hn : n ≤ 1099511627776) :
    Calls Try.prog 81 #[.slice A n c] w (Ret w (.int .i64 (innerV xs : Nat))) := by
  have HL := Lib.hid hl
  cases hs : isShape xs with
  | false =>
    have HV : Hid (innerV xs = 0) := by show innerV xs = 0; unfold innerV; rw [hs]; rfl
    have HS := Lib.hid hs
    clear hs hl
    go_enter Try.func81, Try.ntmps81
    go_wp2
    go_loopw [4, 3] (fun i s wr => i = .int .i64 0 ∧ s = .int .i64 0 ∧ Below w.heap.size w wr) (fun i _ _ => 1 - (intOf i).toNat)
    case atStart => exact ⟨rfl, rfl, (by (repeat (first | with_reducible exact Below.refl _ _ | with_reducible assumption | with_reducible apply bel_alloc | with_reducible apply bel_drew | with_reducible apply bel_drewN | ((with_reducible refine bel_set ?_ ?_); rotate_left; (simp <;> omega)) | (with_reducible refine bel_trans ?_ (by with_reducible assumption)))))⟩
    case round =>
      obtain ⟨rfl, rfl, hb⟩ := hrel
      go_wp2_with (go_at_call 61; refine (IsShape_s _ _ _ xs _ (hr.below hb) HL.out (by omega)).mono ?_; rw [HS.out]; rintro e w2 ⟨rfl, hb2⟩)
      all_goals
        go_ret
        exact ⟨by rw [HV.out]; rfl, (by (repeat (first | with_reducible exact Below.refl _ _ | with_reducible assumption | with_reducible apply bel_alloc | with_reducible apply bel_drew | with_reducible apply bel_drewN | ((with_reducible refine bel_set ?_ ?_); rotate_left; (simp <;> omega)) | (with_reducible refine bel_trans ?_ (by with_reducible assumption)))))⟩
  | true =>
    have HV : Hid (innerV xs = inner xs n) := by show innerV xs = inner xs n; unfold innerV; rw [hs, hl]; rfl
    have hlen := shape_len hs
    have hsm := shape_small hs
    have hn8 : n ≤ 8 := by omega
    have hn1 : 1 ≤ n := by omega
    have HS := Lib.hid hs
    have HSM := Lib.hid hsm
    clear hs hlen hsm hl hn
    go_enter Try.func81, Try.ntmps81
    go_wp2
    go_loopw [4, 3] (fun i s wr => ∃ k q : Nat, k ≤ n ∧ i = .int .i64 k ∧ s = .int .i64 q ∧ q = inner xs k ∧ Below w.heap.size w wr) (fun i _ _ => n - (intOf i).toNat)
    case atStart => exact ⟨0, 0, Nat.zero_le _, rfl, rfl, rfl, (by (repeat (first | with_reducible exact Below.refl _ _ | with_reducible assumption | with_reducible apply bel_alloc | with_reducible apply bel_drew | with_reducible apply bel_drewN | ((with_reducible refine bel_set ?_ ?_); rotate_left; (simp <;> omega)) | (with_reducible refine bel_trans ?_ (by with_reducible assumption)))))⟩
    case round =>
      obtain ⟨k, q, hk, rfl, rfl, hq, hb⟩ := hrel
      by_cases hlt : k < n
      · have hkx : k < xs.length := by rw [HL.out]; omega
        have hin : inner xs (k + 1) = inner xs k + (xs.take k).countP fun d => near xs[k] d := by
          simp only [inner]
          rw [List.getD_eq_getElem?_getD, List.getElem?_eq_getElem hkx]; rfl
        have hi0 : (0 : Int) ≤ (k : Int) := by omega
        have hi1 : (k : Int) < (n : Int) := by omega
        have hile := inner_le xs k (by omega)
        have HQ := Lib.hid hq
        have HIN := Lib.hid hin
        have hq64 : q ≤ 64 := by omega
        clear hq hin hile
        go_wp2_with (go_at_call 61; refine (IsShape_s _ _ _ xs _ (hr.below hb) HL.out (by omega)).mono ?_; rw [HS.out]; rintro e w2 ⟨rfl, hb2⟩)
        go_loopw [5, 3] (fun i s wr => ∃ j p : Nat, j ≤ k ∧ i = .int .i64 j ∧ s = .int .i64 p ∧ p = q + ((xs.take j).countP fun d => near xs[k] d) ∧ Below w.heap.size w wr) (fun i _ _ => k - (intOf i).toNat)
        case atStart => exact ⟨0, q, Nat.zero_le _, rfl, rfl, rfl, (by (repeat (first | with_reducible exact Below.refl _ _ | with_reducible assumption | with_reducible apply bel_alloc | with_reducible apply bel_drew | with_reducible apply bel_drewN | ((with_reducible refine bel_set ?_ ?_); rotate_left; (simp <;> omega)) | (with_reducible refine bel_trans ?_ (by with_reducible assumption)))))⟩
        case round =>
          clear hb
          obtain ⟨j, p, hj, rfl, rfl, hp, hb⟩ := hrel
          by_cases hlj : j < k
          · have hjx : j < xs.length := by omega
            have hrw := hr.below hb
            obtain ⟨g, off, rfl, hgw, c1, c2⟩ := RdC.at_ hrw hkx
            have d12 : wr.cell? ⟨g, off + j * 2, none⟩ = some (.int .i64 xs[j].1) ∧ wr.cell? ⟨g, off + j * 2 + 1, none⟩ = some (.int .i64 xs[j].2) := by
              obtain ⟨g', off', e, _, h1, h2⟩ := RdC.at_ hrw hjx
              simp only [Option.some.injEq, Addr.mk.injEq, and_true] at e
              obtain ⟨rfl, rfl⟩ := e
              exact ⟨h1, h2⟩
            obtain ⟨d1, d2⟩ := d12
            have ht := countP_take (fun d => near xs[k] d) xs j hjx
            have hne := nearS_eq (HSM.out _ (List.getElem_mem hkx)) (HSM.out _ (List.getElem_mem hjx))
            have hpb : ((xs.take j).countP fun d => near xs[k] d) ≤ j := Nat.le_trans (countP_le' _ _) (by rw [List.length_take]; omega)
            have hp2 : p ≤ 80 := by omega
            obtain ⟨⟨x, y⟩, hx⟩ : ∃ p, xs[k] = p := ⟨_, rfl⟩
            obtain ⟨⟨x', y'⟩, hx'⟩ : ∃ p, xs[j] = p := ⟨_, rfl⟩
            rw [hx] at c1 c2
            rw [hx'] at d1 d2
            rw [hx'] at ht
            rw [hx, hx'] at hne
            have hi2 : (0 : Int) ≤ (j : Int) := by omega
            have hi3 : (j : Int) < (n : Int) := by omega
            cases hv : near (x, y) (x', y') with
            | true =>
              have HP : Hid (p + 1 = q + ((xs.take (j + 1)).countP fun d => near xs[k] d)) := by
                unfold Hid
                rw [ht, hx, hv]
                rw [hx] at hp
                simp only [if_true]
                omega
              rw [hv] at hne
              have HW := Lib.hid hne
              clear ht hx hx' hp hpb hne hv
              go_wp2_with fail
              go_region_held3 (fun w' => w'.cell? ⟨g, off + k * 2, none⟩ = some (.int .i64 x) ∧ w'.cell? ⟨g, off + k * 2 + 1, none⟩ = some (.int .i64 y) ∧ w'.cell? ⟨g, off + j * 2, none⟩ = some (.int .i64 x') ∧ w'.cell? ⟨g, off + j * 2 + 1, none⟩ = some (.int .i64 y'))
                ((go_split_ands; (try dsimp only); (repeat' (with_reducible apply And.intro)) <;> (repeat (first | with_reducible assumption | with_reducible apply keep_alloc | with_reducible apply keep_drew | with_reducible refine keep_below hb1 ?_ | ((with_reducible refine keep_set ?_ ?_); rotate_left; (simp <;> omega)))))) (first | (go_at_call 66; refine (l2Near_s _ _ _ _ _).mono ?_; rw [HW.out]; rintro e w1 ⟨rfl, hb1⟩))
              go_wp2
              exact ⟨⟨j + 1, p + 1, by omega, by go_num, by go_num, HP.out, (by (repeat (first | with_reducible exact Below.refl _ _ | with_reducible assumption | with_reducible apply bel_alloc | with_reducible apply bel_drew | with_reducible apply bel_drewN | ((with_reducible refine bel_set ?_ ?_); rotate_left; (simp <;> omega)) | (with_reducible refine bel_trans ?_ (by with_reducible assumption)))))⟩, by simp [intOf]; omega⟩
            | false =>
              have HP : Hid (p = q + ((xs.take (j + 1)).countP fun d => near xs[k] d)) := by
                unfold Hid
                rw [ht, hx, hv]
                rw [hx] at hp
                simp only [Bool.false_eq_true, if_false]
                omega
              rw [hv] at hne
              have HW := Lib.hid hne
              clear ht hx hx' hp hpb hne hv
              go_wp2_with fail
              go_region_held3 (fun w' => w'.cell? ⟨g, off + k * 2, none⟩ = some (.int .i64 x) ∧ w'.cell? ⟨g, off + k * 2 + 1, none⟩ = some (.int .i64 y) ∧ w'.cell? ⟨g, off + j * 2, none⟩ = some (.int .i64 x') ∧ w'.cell? ⟨g, off + j * 2 + 1, none⟩ = some (.int .i64 y'))
                ((go_split_ands; (try dsimp only); (repeat' (with_reducible apply And.intro)) <;> (repeat (first | with_reducible assumption | with_reducible apply keep_alloc | with_reducible apply keep_drew | with_reducible refine keep_below hb1 ?_ | ((with_reducible refine keep_set ?_ ?_); rotate_left; (simp <;> omega)))))) (first | (go_at_call 66; refine (l2Near_s _ _ _ _ _).mono ?_; rw [HW.out]; rintro e w1 ⟨rfl, hb1⟩))
              go_wp2
              exact ⟨⟨j + 1, p, by omega, by go_num, rfl, HP.out, (by (repeat (first | with_reducible exact Below.refl _ _ | with_reducible assumption | with_reducible apply bel_alloc | with_reducible apply bel_drew | with_reducible apply bel_drewN | ((with_reducible refine bel_set ?_ ?_); rotate_left; (simp <;> omega)) | (with_reducible refine bel_trans ?_ (by with_reducible assumption)))))⟩, by simp [intOf]; omega⟩
          · have hjk : j = k := by omega
            have HP : Hid (p = inner xs (k + 1)) := by
              unfold Hid
              rw [HIN.out, hp, HQ.out, hjk]
            have hj5 : ¬ (j : Int) < (k : Int) := by omega
            clear hjk hp
            go_wp2
            exact ⟨⟨k + 1, p, by omega, by go_num, rfl, HP.out, (by (repeat (first | with_reducible exact Below.refl _ _ | with_reducible assumption | with_reducible apply bel_alloc | with_reducible apply bel_drew | with_reducible apply bel_drewN | ((with_reducible refine bel_set ?_ ?_); rotate_left; (simp <;> omega)) | (with_reducible refine bel_trans ?_ (by with_reducible assumption)))))⟩, by simp [intOf]; omega⟩
      · have hkk : k = n := by omega
        subst hkk
        have HQ := Lib.hid hq
        clear hq
        go_wp2
        go_ret
        exact ⟨by rw [HV.out, ← HQ.out]; rfl, (by (repeat (first | with_reducible exact Below.refl _ _ | with_reducible assumption | with_reducible apply bel_alloc | with_reducible apply bel_drew | with_reducible apply bel_drewN | ((with_reducible refine bel_set ?_ ?_); rotate_left; (simp <;> omega)) | (with_reducible refine bel_trans ?_ (by with_reducible assumption)))))⟩
end Go.Proofs.Ytagkopemcabkpaa

/- Connected shapes and trees. -/
namespace Go.Proofs.Ytagkopemcabkpaa
open Go.RowKit
set_option linter.unusedVariables false
attribute [local go_sem ↓] Go.wp_at_zero Go.wp_at_succ

theorem IsConnectedShape_i (A : Option Addr) (n c : Nat) (xs : List C) (w : World) (hr : Rd w A (vC xs)) (hl : xs.length = n) (hn : n ≤ 1099511627776) :
    Calls Try.prog 53 #[.slice A n c] w (Ret w (.bool (isConn xs))) := by
  have HL := Lib.hid hl
  cases hs : isShape xs with
  | false =>
    have HV : Hid (isConn xs = false) := by show isConn xs = false; unfold isConn; rw [hs]; rfl
    have HS := Lib.hid hs
    clear hs hl
    go_enter Try.func53, Try.ntmps53
    go_wp2_with (go_at_call 60; refine (IsShape_i _ _ _ xs _ hr HL.out (by omega)).mono ?_; rw [HS.out]; rintro e w1 ⟨rfl, hb1⟩)
    go_ret
    exact ⟨by rw [HV.out]; rfl, (by (repeat (first | with_reducible exact Below.refl _ _ | with_reducible assumption | with_reducible apply bel_alloc | with_reducible apply bel_drew | with_reducible apply bel_drewN | ((with_reducible refine bel_set ?_ ?_); rotate_left; (simp <;> omega)) | (with_reducible refine bel_trans ?_ (by with_reducible assumption)))))⟩
  | true =>
    have HV : Hid (isConn xs = conn xs) := by show isConn xs = conn xs; unfold isConn; rw [hs]; rfl
    have HS := Lib.hid hs
    clear hs hl
    go_enter Try.func53, Try.ntmps53
    go_wp2_with (first | (go_at_call 60; refine (IsShape_i _ _ _ xs _ hr HL.out (by omega)).mono ?_; rw [HS.out]; rintro e w1 ⟨rfl, hb1⟩) | (go_at_call 80; refine (hangs_i _ _ _ xs _ (hr.below hb1) HL.out HS.out).mono ?_; rintro e w2 ⟨rfl, hb2⟩))
    go_ret
    exact ⟨by rw [HV.out]; rfl, (by (repeat (first | with_reducible exact Below.refl _ _ | with_reducible assumption | with_reducible apply bel_alloc | with_reducible apply bel_drew | with_reducible apply bel_drewN | ((with_reducible refine bel_set ?_ ?_); rotate_left; (simp <;> omega)) | (with_reducible refine bel_trans ?_ (by with_reducible assumption)))))⟩

theorem tree_int (xs : List C) (n : Nat) (hl : xs.length = n) (hs : isShape xs = true) : (((innerV xs : Nat) : Int) == (n : Int) - 1) = (inner xs xs.length == xs.length - 1) := by
  have := shape_len hs
  unfold innerV
  rw [hs, if_pos rfl, Bool.eq_iff_iff, beq_iff_eq, beq_iff_eq]
  omega

theorem IsTreeLike_i (A : Option Addr) (n c : Nat) (xs : List C) (w : World) (hr : Rd w A (vC xs)) (hl : xs.length = n) (hn : n ≤ 1099511627776) :
    Calls Try.prog 52 #[.slice A n c] w (Ret w (.bool (isTree xs))) := by
  have HL := Lib.hid hl
  cases hs : isConn xs with
  | false =>
    have HV : Hid (isTree xs = false) := by show isTree xs = false; unfold isTree; rw [hs]; rfl
    have HS := Lib.hid hs
    clear hs hl
    go_enter Try.func52, Try.ntmps52
    go_wp2_with (go_at_call 53; refine (IsConnectedShape_i _ _ _ xs _ hr HL.out (by omega)).mono ?_; rw [HS.out]; rintro e w1 ⟨rfl, hb1⟩)
    go_ret
    exact ⟨by rw [HV.out]; rfl, (by (repeat (first | with_reducible exact Below.refl _ _ | with_reducible assumption | with_reducible apply bel_alloc | with_reducible apply bel_drew | with_reducible apply bel_drewN | ((with_reducible refine bel_set ?_ ?_); rotate_left; (simp <;> omega)) | (with_reducible refine bel_trans ?_ (by with_reducible assumption)))))⟩
  | true =>
    have hti := tree_int xs n hl (conn_shape hs)
    have hlen := shape_len (conn_shape hs)
    have hn8 : n ≤ 8 := by omega
    have hn1 : (1 : Int) ≤ (n : Int) := by omega
    have HV : Hid (isTree xs = (((innerV xs : Nat) : Int) == (n : Int) - 1)) := by show isTree xs = _; rw [hti]; unfold isTree; rw [hs]; rfl
    have HS := Lib.hid hs
    clear hs hl hti hlen
    go_enter Try.func52, Try.ntmps52
    go_wp2_with (first | (go_at_call 53; refine (IsConnectedShape_i _ _ _ xs _ hr HL.out (by omega)).mono ?_; rw [HS.out]; rintro e w1 ⟨rfl, hb1⟩) | (go_at_call 79; refine (InnerSides_i _ _ _ xs _ (hr.below hb1) HL.out (by omega)).mono ?_; rintro e w2 ⟨rfl, hb2⟩))
    go_ret
    exact ⟨by rw [HV.out]; rfl, (by (repeat (first | with_reducible exact Below.refl _ _ | with_reducible assumption | with_reducible apply bel_alloc | with_reducible apply bel_drew | with_reducible apply bel_drewN | ((with_reducible refine bel_set ?_ ?_); rotate_left; (simp <;> omega)) | (with_reducible refine bel_trans ?_ (by with_reducible assumption)))))⟩

theorem IsTreeLike_s (A : Option Addr) (n c : Nat) (xs : List C) (w : World) (hr : Rd w A (vC xs)) (hl : xs.length = n) (hn : n ≤ 1099511627776) :
    Calls Try.prog 57 #[.slice A n c] w (Ret w (.bool (isTree xs))) := by
  have HL := Lib.hid hl
  cases hs : isConn xs with
  | false =>
    have HV : Hid (isTree xs = false) := by show isTree xs = false; unfold isTree; rw [hs]; rfl
    have HS := Lib.hid hs
    clear hs hl
    go_enter Try.func57, Try.ntmps57
    go_wp2_with (go_at_call 29; refine (IsConnectedShape_s _ _ _ xs _ hr HL.out (by omega)).mono ?_; rw [HS.out]; rintro e w1 ⟨rfl, hb1⟩)
    go_ret
    exact ⟨by rw [HV.out]; rfl, (by (repeat (first | with_reducible exact Below.refl _ _ | with_reducible assumption | with_reducible apply bel_alloc | with_reducible apply bel_drew | with_reducible apply bel_drewN | ((with_reducible refine bel_set ?_ ?_); rotate_left; (simp <;> omega)) | (with_reducible refine bel_trans ?_ (by with_reducible assumption)))))⟩
  | true =>
    have hti := tree_int xs n hl (conn_shape hs)
    have hlen := shape_len (conn_shape hs)
    have hn8 : n ≤ 8 := by omega
    have hn1 : (1 : Int) ≤ (n : Int) := by omega
    have HV : Hid (isTree xs = (((innerV xs : Nat) : Int) == (n : Int) - 1)) := by show isTree xs = _; rw [hti]; unfold isTree; rw [hs]; rfl
    have HS := Lib.hid hs
    clear hs hl hti hlen
    go_enter Try.func57, Try.ntmps57
    go_wp2_with (first | (go_at_call 29; refine (IsConnectedShape_s _ _ _ xs _ hr HL.out (by omega)).mono ?_; rw [HS.out]; rintro e w1 ⟨rfl, hb1⟩) | (go_at_call 81; refine (InnerSides_s _ _ _ xs _ (hr.below hb1) HL.out (by omega)).mono ?_; rintro e w2 ⟨rfl, hb2⟩))
    go_ret
    exact ⟨by rw [HV.out]; rfl, (by (repeat (first | with_reducible exact Below.refl _ _ | with_reducible assumption | with_reducible apply bel_alloc | with_reducible apply bel_drew | with_reducible apply bel_drewN | ((with_reducible refine bel_set ?_ ?_); rotate_left; (simp <;> omega)) | (with_reducible refine bel_trans ?_ (by with_reducible assumption)))))⟩
end Go.Proofs.Ytagkopemcabkpaa

/- Growth: neighbours within a list, the program's and the reference's IsGrowth. -/
namespace Go.Proofs.Ytagkopemcabkpaa
open Go.RowKit
set_option linter.unusedVariables false
attribute [local go_sem ↓] Go.wp_at_zero Go.wp_at_succ

theorem touches_i (A : Option Addr) (n c : Nat) (xs : List C) (x y : Int) (w : World) (hr : Rd w A (vC xs)) (hl : xs.length = n) (hn : n ≤ 1099511627776) :
    Calls Try.prog 64 #[.slice A n c, .agg #[.int .i64 x, .int .i64 y]] w (Ret w (.bool (touchI xs (x, y)))) := by
  have HL := Lib.hid hl
  clear hl
  go_enter Try.func64, Try.ntmps64
  go_wp2
  go_loopw [9] (fun i wr => ∃ k : Nat, k ≤ n ∧ i = .int .i64 k ∧ touchI (xs.take k) (x, y) = false ∧ Blk wr w.heap.size 55 #[.int .i64 x, .int .i64 y] ∧ Below w.heap.size w wr) (fun i _ => n - (intOf i).toNat)
  case atStart => exact ⟨0, Nat.zero_le _, rfl, rfl, Blk.new _ _ _, (by (repeat (first | with_reducible exact Below.refl _ _ | with_reducible assumption | with_reducible apply bel_alloc | with_reducible apply bel_drew | with_reducible apply bel_drewN | ((with_reducible refine bel_set ?_ ?_); rotate_left; (simp <;> omega)) | (with_reducible refine bel_trans ?_ (by with_reducible assumption)))))⟩
  case round =>
    obtain ⟨k, hk, rfl, hno, hB, hb⟩ := hrel
    have b1 : wr.cell? ⟨w.heap.size, 0, none⟩ = some (.int .i64 x) := by simpa using hB.cell 0
    have b2 : wr.cell? ⟨w.heap.size, 1, none⟩ = some (.int .i64 y) := by simpa using hB.cell 1
    have hg := hB.lt
    by_cases hlt : k < n
    · have hkx : k < xs.length := by rw [HL.out]; omega
      obtain ⟨g, off, rfl, hgw, c1, c2⟩ := RdC.at_ (hr.below hb) hkx
      have ht := any_take (fun d => nearI (x, y) d) xs k hkx
      have hf := any_full (fun d => nearI (x, y) d) xs k hkx
      obtain ⟨⟨a, b⟩, hx⟩ : ∃ p, xs[k] = p := ⟨_, rfl⟩
      rw [hx] at c1 c2 ht hf
      cases hv : nearI (x, y) (a, b) with
      | true =>
        have HV : Hid (touchI xs (x, y) = true) := hf hv
        have HW := Lib.hid hv
        clear ht hf hx hno hv
        go_wp2_with (go_at_call 89; refine (beside_i _ _ _ _ _).mono ?_; rw [HW.out]; rintro e w1 ⟨rfl, hb1⟩)
        go_ret
        exact ⟨by rw [HV.out]; rfl, (by (repeat (first | with_reducible exact Below.refl _ _ | with_reducible assumption | with_reducible apply bel_alloc | with_reducible apply bel_drew | with_reducible apply bel_drewN | ((with_reducible refine bel_set ?_ ?_); rotate_left; (simp <;> omega)) | (with_reducible refine bel_trans ?_ (by with_reducible assumption)))))⟩
      | false =>
        have HV : Hid (touchI (xs.take (k + 1)) (x, y) = false) := by
          show (xs.take (k + 1)).any (fun d => nearI (x, y) d) = false
          rw [ht, show (xs.take k).any (fun d => nearI (x, y) d) = false from hno, hv]; rfl
        have HW := Lib.hid hv
        clear ht hf hx hno hv
        go_wp2_with (go_at_call 89; refine (beside_i _ _ _ _ _).mono ?_; rw [HW.out]; rintro e w1 ⟨rfl, hb1⟩)
        exact ⟨⟨k + 1, by omega, by go_num, HV.out, (hB.alloc _).below hb1, (by (repeat (first | with_reducible exact Below.refl _ _ | with_reducible assumption | with_reducible apply bel_alloc | with_reducible apply bel_drew | with_reducible apply bel_drewN | ((with_reducible refine bel_set ?_ ?_); rotate_left; (simp <;> omega)) | (with_reducible refine bel_trans ?_ (by with_reducible assumption)))))⟩, by simp [intOf]; omega⟩
    · have hkk : k = n := by omega
      subst hkk
      rw [List.take_of_length_le (by rw [HL.out]; omega)] at hno
      have HV := Lib.hid hno
      clear hno
      go_wp2
      go_ret
      exact ⟨by rw [HV.out]; rfl, (by (repeat (first | with_reducible exact Below.refl _ _ | with_reducible assumption | with_reducible apply bel_alloc | with_reducible apply bel_drew | with_reducible apply bel_drewN | ((with_reducible refine bel_set ?_ ?_); rotate_left; (simp <;> omega)) | (with_reducible refine bel_trans ?_ (by with_reducible assumption)))))⟩

theorem l25Near_s (A : Option Addr) (n c : Nat) (xs : List C) (x y : Int) (w : World) (hr : Rd w A (vC xs)) (hl : xs.length = n) (hn : n ≤ 1099511627776) :
    Calls Try.prog 65 #[.slice A n c, .agg #[.int .i64 x, .int .i64 y]] w (Ret w (.bool (touchS xs (x, y)))) := by
  have HL := Lib.hid hl
  clear hl
  go_enter Try.func65, Try.ntmps65
  go_wp2
  go_loopw [5] (fun i wr => ∃ k : Nat, k ≤ n ∧ i = .int .i64 k ∧ touchS (xs.take k) (x, y) = false ∧ Blk wr w.heap.size 55 #[.int .i64 x, .int .i64 y] ∧ Below w.heap.size w wr) (fun i _ => n - (intOf i).toNat)
  case atStart => exact ⟨0, Nat.zero_le _, rfl, rfl, Blk.new _ _ _, (by (repeat (first | with_reducible exact Below.refl _ _ | with_reducible assumption | with_reducible apply bel_alloc | with_reducible apply bel_drew | with_reducible apply bel_drewN | ((with_reducible refine bel_set ?_ ?_); rotate_left; (simp <;> omega)) | (with_reducible refine bel_trans ?_ (by with_reducible assumption)))))⟩
  case round =>
    obtain ⟨k, hk, rfl, hno, hB, hb⟩ := hrel
    have b1 : wr.cell? ⟨w.heap.size, 0, none⟩ = some (.int .i64 x) := by simpa using hB.cell 0
    have b2 : wr.cell? ⟨w.heap.size, 1, none⟩ = some (.int .i64 y) := by simpa using hB.cell 1
    have hg := hB.lt
    by_cases hlt : k < n
    · have hkx : k < xs.length := by rw [HL.out]; omega
      obtain ⟨g, off, rfl, hgw, c1, c2⟩ := RdC.at_ (hr.below hb) hkx
      have ht := any_take (fun d => nearS d (x, y)) xs k hkx
      have hf := any_full (fun d => nearS d (x, y)) xs k hkx
      obtain ⟨⟨a, b⟩, hx⟩ : ∃ p, xs[k] = p := ⟨_, rfl⟩
      rw [hx] at c1 c2 ht hf
      have hi0 : (0 : Int) ≤ (k : Int) := by omega
      have hi1 : (k : Int) < (n : Int) := by omega
      cases hv : nearS (a, b) (x, y) with
      | true =>
        have HV : Hid (touchS xs (x, y) = true) := hf hv
        have HW := Lib.hid hv
        clear ht hf hx hno hv
        go_wp2_with fail
        go_region_held3 (fun w' => w'.cell? ⟨g, off + k * 2, none⟩ = some (.int .i64 a) ∧ w'.cell? ⟨g, off + k * 2 + 1, none⟩ = some (.int .i64 b) ∧ w'.cell? ⟨w.heap.size, 0, none⟩ = some (.int .i64 x) ∧ w'.cell? ⟨w.heap.size, 1, none⟩ = some (.int .i64 y))
          ((go_split_ands; (try dsimp only); (repeat' (with_reducible apply And.intro)) <;> (repeat (first | with_reducible assumption | with_reducible apply keep_alloc | with_reducible apply keep_drew | with_reducible refine keep_below hb1 ?_ | ((with_reducible refine keep_set ?_ ?_); rotate_left; (simp <;> omega)))))) (first | (go_at_call 66; refine (l2Near_s _ _ _ _ _).mono ?_; rw [HW.out]; rintro e w1 ⟨rfl, hb1⟩))
        go_wp2
        go_ret
        exact ⟨by rw [HV.out]; rfl, (by (repeat (first | with_reducible exact Below.refl _ _ | with_reducible assumption | with_reducible apply bel_alloc | with_reducible apply bel_drew | with_reducible apply bel_drewN | ((with_reducible refine bel_set ?_ ?_); rotate_left; (simp <;> omega)) | (with_reducible refine bel_trans ?_ (by with_reducible assumption)))))⟩
      | false =>
        have HV : Hid (touchS (xs.take (k + 1)) (x, y) = false) := by
          show (xs.take (k + 1)).any (fun d => nearS d (x, y)) = false
          rw [ht, show (xs.take k).any (fun d => nearS d (x, y)) = false from hno, hv]; rfl
        have HW := Lib.hid hv
        clear ht hf hx hno hv
        go_wp2_with fail
        go_region_held3 (fun w' => w'.cell? ⟨g, off + k * 2, none⟩ = some (.int .i64 a) ∧ w'.cell? ⟨g, off + k * 2 + 1, none⟩ = some (.int .i64 b) ∧ w'.cell? ⟨w.heap.size, 0, none⟩ = some (.int .i64 x) ∧ w'.cell? ⟨w.heap.size, 1, none⟩ = some (.int .i64 y))
          ((go_split_ands; (try dsimp only); (repeat' (with_reducible apply And.intro)) <;> (repeat (first | with_reducible assumption | with_reducible apply keep_alloc | with_reducible apply keep_drew | with_reducible refine keep_below hb1 ?_ | ((with_reducible refine keep_set ?_ ?_); rotate_left; (simp <;> omega)))))) (first | (go_at_call 66; refine (l2Near_s _ _ _ _ _).mono ?_; rw [HW.out]; rintro e w1 ⟨rfl, hb1⟩))
        go_wp2
        exact ⟨⟨k + 1, by omega, by go_num, HV.out, hB.drew.below hb1, (by (repeat (first | with_reducible exact Below.refl _ _ | with_reducible assumption | with_reducible apply bel_alloc | with_reducible apply bel_drew | with_reducible apply bel_drewN | ((with_reducible refine bel_set ?_ ?_); rotate_left; (simp <;> omega)) | (with_reducible refine bel_trans ?_ (by with_reducible assumption)))))⟩, by simp [intOf]; omega⟩
    · have hkk : k = n := by omega
      subst hkk
      rw [List.take_of_length_le (by rw [HL.out]; omega)] at hno
      have HV := Lib.hid hno
      clear hno
      go_wp2
      go_ret
      exact ⟨by rw [HV.out]; rfl, (by (repeat (first | with_reducible exact Below.refl _ _ | with_reducible assumption | with_reducible apply bel_alloc | with_reducible apply bel_drew | with_reducible apply bel_drewN | ((with_reducible refine bel_set ?_ ?_); rotate_left; (simp <;> omega)) | (with_reducible refine bel_trans ?_ (by with_reducible assumption)))))⟩
end Go.Proofs.Ytagkopemcabkpaa

/- A region that draws its order, whose operations read and whose callees may make memory of their own: one walk of the lexical order, in every world that is as the first one below its heap's end. -/
namespace Go.Proofs.Ytagkopemcabkpaa
open Go.RowKit
section
variable {P : Program} {C : World → Prop} {K : Act → Prop} {a : Act} {o : Oper}
theorem wp_region_below {id : Nat} {Q : Exit → Act → World → Prop} {w : World} {l : List Oper} (hm : P.follows .mixedOrders = true) (hB : Region.lexB .any l.toArray = true)
    (h : wpQuiet P l.toArray (fun w' => Below w.heap.size w w') (fun a' => ∀ w', Below w.heap.size w w' → Q .normal a' w') l a) : (Code.region id l.toArray true).wp P Q a w :=
  wp_region_quiet (C := fun w' => Below w.heap.size w w') hm hB ⟨rfl, rfl, rfl, Nat.le_refl _, fun _ _ => rfl⟩ (by simpa using h)
theorem quietV {ops : Array Oper} {Q : Act → Prop} {rest : List Oper} {ts : Array Value} {ds : List Deferred} {v : Value} {d : Nat} (hw : Region.wanted o (yielded ops ts) = true) (hd : o.dst = some d) (h1 : ∀ w', C w' → o.quietAt P { tmps := ts, defers := ds } C w' v)
    (h2 : wpQuiet P ops C Q rest { tmps := ts.setIfInBounds d v, defers := ds }) : wpQuiet P ops C Q (o :: rest) { tmps := ts, defers := ds } :=
  wpQuiet_step fun K hK => by rw [if_pos hw]; exact ⟨v, h1, by rw [hd]; exact hK _ h2⟩
theorem quietB {v : Value} (h1 : ∀ w', C w' → o.quietAt P a C w' v) (h2 : K (a.put o.dst v)) : o.quiet P a C K := ⟨v, h1, h2⟩
theorem callsB {f : FuncId} {args : Array Value} {w w' : World} {v : Value} (h : Calls P f args w' (Ret w' v)) (hb : Below w.heap.size w w') :
    Calls P f args w' (fun e w'' => e = .returned v ∧ Below w.heap.size w w'') := h.mono fun _ _ ⟨he, h2⟩ => ⟨he, bel_trans hb h2⟩
theorem callsBB {f : FuncId} {args : Array Value} {w w' : World} {b b' : Bool} (h : Calls P f args w' (Ret w' (.bool b))) (e : b = b') (hb : Below w.heap.size w w') :
    Calls P f args w' (fun e w'' => e = .returned (.bool b') ∧ Below w.heap.size w w'') := by subst e; exact callsB h hb
theorem callsBI {f : FuncId} {args : Array Value} {w w' : World} {b b' : Int} (h : Calls P f args w' (Ret w' (.int .i64 b))) (e : b = b') (hb : Below w.heap.size w w') :
    Calls P f args w' (fun e w'' => e = .returned (.int .i64 b') ∧ Below w.heap.size w w'') := by subst e; exact callsB h hb
end
end Go.Proofs.Ytagkopemcabkpaa

/- The order of growth. -/
namespace Go.Proofs.Ytagkopemcabkpaa
open Go.RowKit
set_option linter.unusedVariables false
attribute [local go_sem ↓] Go.wp_at_zero Go.wp_at_succ

def lenV (v : Value) : Nat := match v with
  | .slice _ n _ => n
  | _ => 0
noncomputable def growSteps (xs : List C) : List C := if isConn xs then grownBy xs (xs.length - 1) else []
theorem find_at {α : Type} {p : α → Bool} {xs : List α} {j : Nat} (hj : j < xs.length) (h : ∀ c ∈ xs.take j, p c = false) (h1 : p xs[j] = true) : xs.find? p = some xs[j] := by
  have e : xs = xs.take j ++ xs[j] :: xs.drop (j + 1) := by rw [← List.drop_eq_getElem_cons hj, List.take_append_drop]
  have h2 : (xs.take j).find? p = none := by rw [List.find?_eq_none]; intro c hc; rw [h c hc]; simp
  conv => lhs; rw [e]
  rw [List.find?_append, h2, List.find?_cons, h1]; rfl
theorem takeP_all {xs : List C} {k : Nat} {P : C → Prop} (hk : k < xs.length) (h : ∀ c ∈ xs.take k, P c) (h1 : P xs[k]) : ∀ c ∈ xs.take (k + 1), P c := by
  intro c hc
  rw [List.take_succ_eq_append_getElem hk, List.mem_append, List.mem_singleton] at hc
  rcases hc with hc | hc
  · exact h c hc
  · rw [hc]; exact h1
theorem grownBy_next {xs : List C} {k j : Nat} (hj : j < xs.length) (h : ∀ c ∈ xs.take j, nextTo (grownBy xs k) c = false) (h1 : nextTo (grownBy xs k) xs[j] = true) : grownBy xs (k + 1) = grownBy xs k ++ [xs[j]] := by
  simp only [grownBy, find_at hj h h1]; rfl
theorem grownBy_none {xs : List C} {k : Nat} (hc : isConn xs = true) (hk : k + 1 < xs.length) (h : ∀ c ∈ xs, nextTo (grownBy xs k) c = false) : False := by
  have hcn : conn xs = true := by simp only [isConn, Bool.and_eq_true] at hc; exact hc.2
  have hnd := shape_nodup (conn_shape hc)
  obtain ⟨c, hf⟩ := next_some hcn hnd (grownBy_s0 xs k) (by rw [grownBy_len hcn hnd k (by omega)]; omega)
  have := List.find?_some hf
  rw [h c (List.mem_of_find?_eq_some hf)] at this
  cases this
theorem growSteps_len (xs : List C) : (growSteps xs).length ≤ 1048576 := by
  unfold growSteps
  split
  · next h =>
    have hs := conn_shape h
    have := shape_len hs
    have hcn : conn xs = true := by simp only [isConn, Bool.and_eq_true] at h; exact h.2
    rw [grownBy_len hcn (shape_nodup hs) _ (by omega)]; omega
  · simp
set_option maxHeartbeats 1600000 in
theorem GrowthSteps_i (A : Option Addr) (n c : Nat) (xs : List C) (w : World) (hr : Rd w A (vC xs)) (hl : xs.length = n) (hn : n ≤ 1099511627776) :
    Calls Try.prog 26 #[.slice A n c] w (RetS2 w 55 2 (vC (growSteps xs)) (.bool (isConn xs))) := by
  have HL := Lib.hid hl
  cases hc : isConn xs with
  | false =>
    have HV : Hid (growSteps xs = []) := by show growSteps xs = []; unfold growSteps; rw [hc]; rfl
    have HC := Lib.hid hc
    clear hc hl
    go_enter Try.func26, Try.ntmps26
    go_wp2_with (go_at_call 53; refine (IsConnectedShape_i _ _ _ xs _ hr HL.out (by omega)).mono ?_; rw [HC.out]; rintro e w1 ⟨rfl, hb1⟩)
    go_ret2
    exact ⟨none, 0, 0, rfl, by rw [HV.out]; exact own_nil _ _ _ _, (by (repeat (first | with_reducible exact Below.refl _ _ | with_reducible assumption | with_reducible apply bel_alloc | with_reducible apply bel_drew | with_reducible apply bel_drewN | ((with_reducible refine bel_set ?_ ?_); rotate_left; (simp <;> omega)) | (with_reducible refine bel_trans ?_ (by with_reducible assumption)))))⟩
  | true =>
    have HV : Hid (growSteps xs = grownBy xs (n - 1)) := by show growSteps xs = _; unfold growSteps; rw [hc, hl]; rfl
    have hs := conn_shape hc
    have hcn : conn xs = true := by simp only [isConn, Bool.and_eq_true] at hc; exact hc.2
    have hnd := shape_nodup hs
    have hlen := shape_len hs
    have hsm := shape_small hs
    have hn8 : n ≤ 8 := by omega
    have hn1 : 1 ≤ n := by omega
    have hnp : (0 : Int) < (n : Int) := by omega
    have h0x : 0 < xs.length := by omega
    have hs0 : xs[0] = s0 xs := by simp [s0, List.getD_eq_getElem?_getD, h0x]
    have HGL : Hid (∀ k, k < n → (grownBy xs k).length = k + 1) := fun k hk => grownBy_len hcn hnd k (by omega)
    have HGS : Hid (∀ k, ∀ d ∈ grownBy xs k, small d) := fun k d hd => hsm d (grownBy_sub (by intro h; rw [h] at h0x; simp at h0x) k d hd)
    have HSM := Lib.hid hsm
    have HC := Lib.hid hc
    have HS0 := Lib.hid hs0
    clear hc hs hcn hnd hlen hsm hl hn hs0
    go_enter Try.func26, Try.ntmps26
    go_wp2_with fail
    refine (IsConnectedShape_i _ _ _ xs _ hr HL.out (by omega)).mono ?_
    rw [HC.out]
    rintro e w1 ⟨rfl, hb1⟩
    obtain ⟨g0, off0, hA0, hg0, z1, z2⟩ := RdC.at_ (hr.below hb1) h0x
    rw [HS0.out] at z1 z2
    simp only [Nat.zero_mul, Nat.add_zero] at z1 z2
    obtain ⟨⟨zx, zy⟩, hz⟩ : ∃ p, s0 xs = p := ⟨_, rfl⟩
    rw [hz] at z1 z2
    have HZ := Lib.hid hz
    clear hz
    subst hA0
    have hbs := hb1.size
    go_wp2_with fail
    go_loopw [4] (fun e wr => ∃ (k m cap : Nat) (B : Option Addr), k < n ∧ m = k + 1 ∧ e = .slice B m cap ∧ wr.ownsRow w.heap.size 55 2 (.slice B m cap) m (vC (grownBy xs k)) ∧ Below w.heap.size w wr) (fun e _ => n - lenV e)
    case atStart => exact ⟨0, 1, 1, _, by omega, rfl, rfl, by simp only [grownBy]; rw [HZ.out]; exact own_newC _ _ _ _ hbs, (by (repeat (first | with_reducible exact Below.refl _ _ | with_reducible assumption | with_reducible apply bel_alloc | with_reducible apply bel_drew | with_reducible apply bel_drewN | ((with_reducible refine bel_set ?_ ?_); rotate_left; (simp <;> omega)) | (with_reducible refine bel_trans ?_ (by with_reducible assumption)))))⟩
    case round =>
      clear HZ hb1 z1 z2 hg0 hbs
      obtain ⟨k, m, cap, B, hk, hmk, rfl, hown, hb⟩ := hrel
      by_cases hlt : m < n
      · have HO := Lib.hid hown
        have HM := Lib.hid hmk
        have hlt2 : (m : Int) < (n : Int) := by omega
        clear hown hmk
        go_wp2_with fail
        go_loopw [4, 21] (fun e i wr => ∃ j : Nat, j ≤ n ∧ e = .slice B m cap ∧ i = .int .i64 j ∧ (∀ c ∈ xs.take j, nextTo (grownBy xs k) c = false) ∧ wr.ownsRow w.heap.size 55 2 (.slice B m cap) m (vC (grownBy xs k)) ∧ Below w.heap.size w wr) (fun _ i _ => n - (intOf i).toNat)
        case atStart => exact ⟨0, Nat.zero_le _, rfl, rfl, by simp, HO.out, hb⟩
        case round =>
          clear HO hb
          obtain ⟨j, hj, rfl, rfl, hno, hown, hb⟩ := hrel
          by_cases hlj : j < n
          · have hjx : j < xs.length := by rw [HL.out]; omega
            have hrw := hr.below hb
            obtain ⟨g, off, hA, hgw, c1, c2⟩ := RdC.at_ hrw hjx
            simp only [Option.some.injEq, Addr.mk.injEq, and_true] at hA
            obtain ⟨rfl, rfl⟩ := hA
            have hte := touchI_eq (HGS.out k) (HSM.out _ (List.getElem_mem hjx))
            have HNX : Hid (nextTo (grownBy xs k) xs[j] = true → grownBy xs (k + 1) = grownBy xs k ++ [xs[j]]) := fun h => grownBy_next hjx hno h
            have HNO : Hid (nextTo (grownBy xs k) xs[j] = false → ∀ c ∈ xs.take (j + 1), nextTo (grownBy xs k) c = false) := fun h => takeP_all hjx hno h
            have HDF : Hid (nextTo (grownBy xs k) xs[j] = (!hasC (grownBy xs k) xs[j].1 xs[j].2 && touch (grownBy xs k) xs[j])) := rfl
            obtain ⟨⟨x, y⟩, hx⟩ : ∃ p, xs[j] = p := ⟨_, rfl⟩
            rw [hx] at c1 c2 hte HNX HNO HDF
            have hgl := HGL.out k hk
            have hglm : (grownBy xs k).length = m := by have := HM.out; omega
            have HG := Lib.hid hglm
            have HT := Lib.hid hte
            have HO := Lib.hid hown
            have rs := Rd.of_own hown
            have hbs := hb.size
            clear hno hown hte hx hgl hglm
            have hm12 : m ≤ 1099511627776 := by omega
            have hcall := HasCell_i B m cap (grownBy xs k) x y _ (rs.alloc (.cells #[.int .i64 x, .int .i64 y] 55)) HG.out hm12
            have HCALL := Lib.hid hcall
            clear hcall
            cases hh : hasC (grownBy xs k) x y with
            | true =>
              have HN := Lib.hid (HNO.out (by simp [HDF.out, hh]))
              have HH := Lib.hid hh
              clear hh HNX HNO HDF
              go_wp2_with (go_at_call 55; refine Calls.mono HCALL.out ?_; rw [HH.out]; rintro e w1 ⟨rfl, hb1⟩; have HO2 := Lib.hid (own_keep (HO.out.alloc _) hb1))
              exact ⟨⟨j + 1, by omega, rfl, by go_num, HN.out, HO2.out, (by (repeat (first | with_reducible exact Below.refl _ _ | with_reducible assumption | with_reducible apply bel_alloc | with_reducible apply bel_drew | with_reducible apply bel_drewN | ((with_reducible refine bel_set ?_ ?_); rotate_left; (simp <;> omega)) | (with_reducible refine bel_trans ?_ (by with_reducible assumption)))))⟩, by simp [intOf]; omega⟩
            | false =>
              have HH := Lib.hid hh
              cases ht : touch (grownBy xs k) (x, y) with
              | false =>
                have HN := Lib.hid (HNO.out (by simp [HDF.out, hh, ht]))
                rw [ht] at HT
                clear hh ht HNX HNO HDF
                go_wp2_with fail
                refine Calls.mono HCALL.out ?_
                rw [HH.out]
                rintro e w1 ⟨rfl, hb1⟩
                have z1 : w1.cell? ⟨wr.heap.size, 0, none⟩ = some (.int .i64 x) := by simpa using ((Blk.new wr 55 #[.int .i64 x, .int .i64 y]).below hb1).cell 0
                have z2 : w1.cell? ⟨wr.heap.size, 1, none⟩ = some (.int .i64 y) := by simpa using ((Blk.new wr 55 #[.int .i64 x, .int .i64 y]).below hb1).cell 1
                have rs1 := (rs.alloc (.cells #[.int .i64 x, .int .i64 y] 55)).below hb1
                have HO1 := Lib.hid (own_keep (HO.out.alloc (.cells #[.int .i64 x, .int .i64 y] 55)) hb1)
                go_wp2_with fail
                refine (touches_i _ _ _ (grownBy xs k) _ _ _ rs1 HG.out (by omega)).mono ?_
                rw [HT.out]
                rintro e w2 ⟨rfl, hb2⟩
                have HO2 := Lib.hid (own_keep HO1.out hb2)
                go_wp2_with fail
                exact ⟨⟨j + 1, by omega, rfl, by go_num, HN.out, HO2.out, (by (repeat (first | with_reducible exact Below.refl _ _ | with_reducible assumption | with_reducible apply bel_alloc | with_reducible apply bel_drew | with_reducible apply bel_drewN | ((with_reducible refine bel_set ?_ ?_); rotate_left; (simp <;> omega)) | (with_reducible refine bel_trans ?_ (by with_reducible assumption)))))⟩, by simp [intOf]; omega⟩
              | true =>
                have HN := Lib.hid (HNX.out (by simp [HDF.out, hh, ht]))
                rw [ht] at HT
                clear hh ht HNX HNO HDF
                go_wp2_with fail
                refine Calls.mono HCALL.out ?_
                rw [HH.out]
                rintro e w1 ⟨rfl, hb1⟩
                have z1 : w1.cell? ⟨wr.heap.size, 0, none⟩ = some (.int .i64 x) := by simpa using ((Blk.new wr 55 #[.int .i64 x, .int .i64 y]).below hb1).cell 0
                have z2 : w1.cell? ⟨wr.heap.size, 1, none⟩ = some (.int .i64 y) := by simpa using ((Blk.new wr 55 #[.int .i64 x, .int .i64 y]).below hb1).cell 1
                have rs1 := (rs.alloc (.cells #[.int .i64 x, .int .i64 y] 55)).below hb1
                have HO1 := Lib.hid (own_keep (HO.out.alloc (.cells #[.int .i64 x, .int .i64 y] 55)) hb1)
                go_wp2_with fail
                refine (touches_i _ _ _ (grownBy xs k) _ _ _ rs1 HG.out (by omega)).mono ?_
                rw [HT.out]
                rintro e w2 ⟨rfl, hb2⟩
                have y1 := keep_below hb2 z1
                have y2 := keep_below hb2 z2
                have HO2 := Lib.hid (own_keep HO1.out hb2)
                have hbw : Below w.heap.size w w2 := (by (repeat (first | with_reducible exact Below.refl _ _ | with_reducible assumption | with_reducible apply bel_alloc | with_reducible apply bel_drew | with_reducible apply bel_drewN | ((with_reducible refine bel_set ?_ ?_); rotate_left; (simp <;> omega)) | (with_reducible refine bel_trans ?_ (by with_reducible assumption)))))
                have hbwz := hbw.size
                go_wp2_with (at_builtin; go_must (refine app_C _ rfl _ _ rfl w.heap.size _ _ _ _ rfl (HO2.out.alloc _) _ _ _ [(x, y)] rfl (rd_newC _ _ _ _) rfl (by omega) (by simp; omega) ?_); intro A' c' w' hown' hg' hat'; have HO3 := Lib.hid hown'; have HBG := Lib.hid (bel_app (bel_alloc hbw _) hg' (fun g' hg1 => ((own_lt HO2.out) g' hg1).1)); clear hown' hg' hat')
                exact ⟨⟨k + 1, m + 1, c', A', by have := HM.out; omega, by rw [HM.out], rfl, by rw [HN.out]; exact HO3.out, HBG.out⟩, by simp [lenV]; omega⟩
          · exfalso
            have hjn : j = n := by omega
            rw [List.take_of_length_le (by rw [HL.out]; omega)] at hno
            exact grownBy_none HC.out (by rw [HL.out]; have := HM.out; omega) hno
      · have hkn : k = n - 1 := by omega
        have hlt2 : ¬ (m : Int) < (n : Int) := by omega
        rw [hkn, ← HV.out] at hown
        have HO := Lib.hid hown
        clear hown hkn hmk
        go_wp2
        go_ret2
        exact ⟨_, _, _, rfl, HO.out, (by (repeat (first | with_reducible exact Below.refl _ _ | with_reducible assumption | with_reducible apply bel_alloc | with_reducible apply bel_drew | with_reducible apply bel_drewN | ((with_reducible refine bel_set ?_ ?_); rotate_left; (simp <;> omega)) | (with_reducible refine bel_trans ?_ (by with_reducible assumption)))))⟩
set_option maxHeartbeats 1600000 in
theorem GrowthSteps_s (A : Option Addr) (n c : Nat) (xs : List C) (w : World) (hr : Rd w A (vC xs)) (hl : xs.length = n) (hn : n ≤ 1099511627776) :
    Calls Try.prog 27 #[.slice A n c] w (RetS2 w 55 2 (vC (growSteps xs)) (.bool (isConn xs))) := by
  have HL := Lib.hid hl
  cases hc : isConn xs with
  | false =>
    have HV : Hid (growSteps xs = []) := by show growSteps xs = []; unfold growSteps; rw [hc]; rfl
    have HC := Lib.hid hc
    clear hc hl
    go_enter Try.func27, Try.ntmps27
    go_wp2_with (go_at_call 29; refine (IsConnectedShape_s _ _ _ xs _ hr HL.out (by omega)).mono ?_; rw [HC.out]; rintro e w1 ⟨rfl, hb1⟩)
    go_ret2
    exact ⟨_, 0, 0, rfl, by rw [HV.out]; exact own_new _ _ 2 0 #[] rfl (by simp [maxLen]) (by have := hb1.size; omega), (by (repeat (first | with_reducible exact Below.refl _ _ | with_reducible assumption | with_reducible apply bel_alloc | with_reducible apply bel_drew | with_reducible apply bel_drewN | ((with_reducible refine bel_set ?_ ?_); rotate_left; (simp <;> omega)) | (with_reducible refine bel_trans ?_ (by with_reducible assumption)))))⟩
  | true =>
    have HV : Hid (growSteps xs = grownBy xs (n - 1)) := by show growSteps xs = _; unfold growSteps; rw [hc, hl]; rfl
    have hs := conn_shape hc
    have hcn : conn xs = true := by simp only [isConn, Bool.and_eq_true] at hc; exact hc.2
    have hnd := shape_nodup hs
    have hlen := shape_len hs
    have hsm := shape_small hs
    have hn8 : n ≤ 8 := by omega
    have hn1 : 1 ≤ n := by omega
    have hnp : (0 : Int) < (n : Int) := by omega
    have h0x : 0 < xs.length := by omega
    have hs0 : xs[0] = s0 xs := by simp [s0, List.getD_eq_getElem?_getD, h0x]
    have HGL : Hid (∀ k, k < n → (grownBy xs k).length = k + 1) := fun k hk => grownBy_len hcn hnd k (by omega)
    have HGS : Hid (∀ k, ∀ d ∈ grownBy xs k, small d) := fun k d hd => hsm d (grownBy_sub (by intro h; rw [h] at h0x; simp at h0x) k d hd)
    have HSM := Lib.hid hsm
    have HC := Lib.hid hc
    have HS0 := Lib.hid hs0
    clear hc hs hcn hnd hlen hsm hl hn hs0
    go_enter Try.func27, Try.ntmps27
    go_wp2_with fail
    refine (IsConnectedShape_s _ _ _ xs _ hr HL.out (by omega)).mono ?_
    rw [HC.out]
    rintro e w1 ⟨rfl, hb1⟩
    obtain ⟨g0, off0, hA0, hg0, z1, z2⟩ := RdC.at_ (hr.below hb1) h0x
    rw [HS0.out] at z1 z2
    simp only [Nat.zero_mul, Nat.add_zero] at z1 z2
    obtain ⟨⟨zx, zy⟩, hz⟩ : ∃ p, s0 xs = p := ⟨_, rfl⟩
    rw [hz] at z1 z2
    have HZ := Lib.hid hz
    clear hz
    subst hA0
    have hbs := hb1.size
    go_wp2_with fail
    go_loopw [4] (fun e wr => ∃ (k m cap : Nat) (B : Option Addr), k < n ∧ m = k + 1 ∧ e = .slice B m cap ∧ wr.ownsRow w.heap.size 55 2 (.slice B m cap) m (vC (grownBy xs k)) ∧ Below w.heap.size w wr) (fun e _ => n - lenV e)
    case atStart => exact ⟨0, 1, 1, _, by omega, rfl, rfl, by simp only [grownBy]; rw [HZ.out]; exact own_newC _ _ _ _ hbs, (by (repeat (first | with_reducible exact Below.refl _ _ | with_reducible assumption | with_reducible apply bel_alloc | with_reducible apply bel_drew | with_reducible apply bel_drewN | ((with_reducible refine bel_set ?_ ?_); rotate_left; (simp <;> omega)) | (with_reducible refine bel_trans ?_ (by with_reducible assumption)))))⟩
    case round =>
      clear HZ hb1 z1 z2 hg0 hbs
      obtain ⟨k, m, cap, B, hk, hmk, rfl, hown, hb⟩ := hrel
      by_cases hlt : m < n
      · have HO := Lib.hid hown
        have HM := Lib.hid hmk
        have hlt2 : (m : Int) < (n : Int) := by omega
        clear hown hmk
        go_wp2_with fail
        go_loopw [4, 5] (fun e i wr => ∃ j : Nat, j ≤ n ∧ e = .slice B m cap ∧ i = .int .i64 j ∧ (∀ c ∈ xs.take j, nextTo (grownBy xs k) c = false) ∧ wr.ownsRow w.heap.size 55 2 (.slice B m cap) m (vC (grownBy xs k)) ∧ Below w.heap.size w wr) (fun _ i _ => n - (intOf i).toNat)
        case atStart => exact ⟨0, Nat.zero_le _, rfl, rfl, by simp, HO.out, hb⟩
        case round =>
          clear HO hb
          obtain ⟨j, hj, rfl, rfl, hno, hown, hb⟩ := hrel
          by_cases hlj : j < n
          · have hjx : j < xs.length := by rw [HL.out]; omega
            have hrw := hr.below hb
            obtain ⟨g, off, hA, hgw, c1, c2⟩ := RdC.at_ hrw hjx
            simp only [Option.some.injEq, Addr.mk.injEq, and_true] at hA
            obtain ⟨rfl, rfl⟩ := hA
            have hte := touchS_eq (HGS.out k) (HSM.out _ (List.getElem_mem hjx))
            have HNX : Hid (nextTo (grownBy xs k) xs[j] = true → grownBy xs (k + 1) = grownBy xs k ++ [xs[j]]) := fun h => grownBy_next hjx hno h
            have HNO : Hid (nextTo (grownBy xs k) xs[j] = false → ∀ c ∈ xs.take (j + 1), nextTo (grownBy xs k) c = false) := fun h => takeP_all hjx hno h
            have HDF : Hid (nextTo (grownBy xs k) xs[j] = (!hasC (grownBy xs k) xs[j].1 xs[j].2 && touch (grownBy xs k) xs[j])) := rfl
            obtain ⟨⟨x, y⟩, hx⟩ : ∃ p, xs[j] = p := ⟨_, rfl⟩
            rw [hx] at c1 c2 hte HNX HNO HDF
            have hgl := HGL.out k hk
            have hglm : (grownBy xs k).length = m := by have := HM.out; omega
            have HG := Lib.hid hglm
            have HT := Lib.hid hte
            have HO := Lib.hid hown
            have rs := Rd.of_own hown
            have hbs := hb.size
            have hi0 : (0 : Int) ≤ (j : Int) := by omega
            have hi1 : (j : Int) < (n : Int) := by omega
            have hm12 : m ≤ 1099511627776 := by omega
            clear hno hown hte hx hgl hglm
            cases hh : hasC (grownBy xs k) x y with
            | true =>
              have HN := Lib.hid (HNO.out (by simp [HDF.out, hh]))
              have HH := Lib.hid hh
              clear hh HNX HNO HDF
              go_wp2_with fail
              (refine wp_region_below (by kernel_rfl) (by kernel_rfl) ?_; (repeat (first | go_big_quiet_skip | (refine quietV (v := ?_) (by rfl) rfl (fun w' hbw => ?_) ?_; rotate_left; ((try dsimp only at hbw); have hbc := (bcell hbw).1; have hbf := (bcell hbw).2; go_simp; first | done | with_reducible rfl | (go_at_call 56; exact callsBB (HasCell_s _ _ _ _ _ _ _ (rs.below hbw) HG.out hm12) HH.out hbw)); simp only [List.setIfInBounds_toArray, List.set_cons_zero, List.set_cons_succ]))); refine wpQuiet_nil ?_; intro w1 hb1)
              have HO2 := Lib.hid (own_keep HO.out hb1)
              go_wp2_with fail
              exact ⟨⟨j + 1, by omega, rfl, by go_num, HN.out, HO2.out, (by (repeat (first | with_reducible exact Below.refl _ _ | with_reducible assumption | with_reducible apply bel_alloc | with_reducible apply bel_drew | with_reducible apply bel_drewN | ((with_reducible refine bel_set ?_ ?_); rotate_left; (simp <;> omega)) | (with_reducible refine bel_trans ?_ (by with_reducible assumption)))))⟩, by simp [intOf]; omega⟩
            | false =>
              have HH := Lib.hid hh
              cases ht : touch (grownBy xs k) (x, y) with
              | false =>
                have HN := Lib.hid (HNO.out (by simp [HDF.out, hh, ht]))
                rw [ht] at HT
                clear hh ht HNX HNO HDF
                go_wp2_with fail
                (refine wp_region_below (by kernel_rfl) (by kernel_rfl) ?_; (repeat (first | go_big_quiet_skip | (refine quietV (v := ?_) (by rfl) rfl (fun w' hbw => ?_) ?_; rotate_left; ((try dsimp only at hbw); have hbc := (bcell hbw).1; have hbf := (bcell hbw).2; go_simp; first | done | with_reducible rfl | (first | (go_at_call 56; exact callsBB (HasCell_s _ _ _ _ _ _ _ (rs.below hbw) HG.out hm12) HH.out hbw) | (go_at_call 65; exact callsBB (l25Near_s _ _ _ _ _ _ _ (rs.below hbw) HG.out hm12) HT.out hbw))); simp only [List.setIfInBounds_toArray, List.set_cons_zero, List.set_cons_succ]))); refine wpQuiet_nil ?_; intro w1 hb1)
                have HO2 := Lib.hid (own_keep HO.out hb1)
                go_wp2_with fail
                exact ⟨⟨j + 1, by omega, rfl, by go_num, HN.out, HO2.out, (by (repeat (first | with_reducible exact Below.refl _ _ | with_reducible assumption | with_reducible apply bel_alloc | with_reducible apply bel_drew | with_reducible apply bel_drewN | ((with_reducible refine bel_set ?_ ?_); rotate_left; (simp <;> omega)) | (with_reducible refine bel_trans ?_ (by with_reducible assumption)))))⟩, by simp [intOf]; omega⟩
              | true =>
                have HN := Lib.hid (HNX.out (by simp [HDF.out, hh, ht]))
                rw [ht] at HT
                clear hh ht HNX HNO HDF
                go_wp2_with fail
                (refine wp_region_below (by kernel_rfl) (by kernel_rfl) ?_; (repeat (first | go_big_quiet_skip | (refine quietV (v := ?_) (by rfl) rfl (fun w' hbw => ?_) ?_; rotate_left; ((try dsimp only at hbw); have hbc := (bcell hbw).1; have hbf := (bcell hbw).2; go_simp; first | done | with_reducible rfl | (first | (go_at_call 56; exact callsBB (HasCell_s _ _ _ _ _ _ _ (rs.below hbw) HG.out hm12) HH.out hbw) | (go_at_call 65; exact callsBB (l25Near_s _ _ _ _ _ _ _ (rs.below hbw) HG.out hm12) HT.out hbw))); simp only [List.setIfInBounds_toArray, List.set_cons_zero, List.set_cons_succ]))); refine wpQuiet_nil ?_; intro w2 hb2)
                have y1 := keep_below hb2 c1
                have y2 := keep_below hb2 c2
                have HO2 := Lib.hid (own_keep HO.out hb2)
                have hbw : Below w.heap.size w w2 := (by (repeat (first | with_reducible exact Below.refl _ _ | with_reducible assumption | with_reducible apply bel_alloc | with_reducible apply bel_drew | with_reducible apply bel_drewN | ((with_reducible refine bel_set ?_ ?_); rotate_left; (simp <;> omega)) | (with_reducible refine bel_trans ?_ (by with_reducible assumption)))))
                have hbwz := hbw.size
                go_wp2_with (at_builtin; go_must (refine app_C _ rfl _ _ rfl w.heap.size _ _ _ _ rfl (HO2.out.alloc _) _ _ _ [(x, y)] rfl (rd_newC _ _ _ _) rfl (by omega) (by simp; omega) ?_); intro A' c' w' hown' hg' hat'; have HO3 := Lib.hid hown'; have HBG := Lib.hid (bel_app (bel_alloc hbw _) hg' (fun g' hg1 => ((own_lt HO2.out) g' hg1).1)); clear hown' hg' hat')
                exact ⟨⟨k + 1, m + 1, c', A', by have := HM.out; omega, by rw [HM.out], rfl, by rw [HN.out]; exact HO3.out, HBG.out⟩, by simp [lenV]; omega⟩
          · exfalso
            have hjn : j = n := by omega
            rw [List.take_of_length_le (by rw [HL.out]; omega)] at hno
            exact grownBy_none HC.out (by rw [HL.out]; have := HM.out; omega) hno
      · have hkn : k = n - 1 := by omega
        have hlt2 : ¬ (m : Int) < (n : Int) := by omega
        rw [hkn, ← HV.out] at hown
        have HO := Lib.hid hown
        clear hown hkn hmk
        go_wp2
        go_ret2
        exact ⟨_, _, _, rfl, HO.out, (by (repeat (first | with_reducible exact Below.refl _ _ | with_reducible assumption | with_reducible apply bel_alloc | with_reducible apply bel_drew | with_reducible apply bel_drewN | ((with_reducible refine bel_set ?_ ?_); rotate_left; (simp <;> omega)) | (with_reducible refine bel_trans ?_ (by with_reducible assumption)))))⟩
end Go.Proofs.Ytagkopemcabkpaa

/- A region that draws its order: operations that read and quiet calls, and a chain of operations that make or write memory. The quiet ones may be taken first. -/
namespace Go.Proofs.Ytagkopemcabkpaa
open Go.RowKit
/-- w' is w with more memory. -/
abbrev Ext (w w' : World) : Prop := Below w.heap.size w w'
section
variable {P : Program} {ops : Array Oper} {md : Region.Mode} {C : World → Prop} {Q : Exit → Act → World → Prop}
/-- In every world of the class o yields v and leaves that world, with more memory at most. -/
def Qt (P : Program) (ops : Array Oper) (C : World → Prop) (o : Oper) (v : Value) (a : Act) : Prop :=
  (Region.wanted o (yielded ops a.tmps) = true ∧ ∀ w, C w → o.quietAt P a (Ext w) w v) ∨ (Region.wanted o (yielded ops a.tmps) = false ∧ v = undef)
theorem Qt.same {o : Oper} {v : Value} {a a' : Act} (hy : Qt P ops C o v a) (he : execOp a'.eval o = execOp a.eval o)
    (hw : Region.wanted o (yielded ops a'.tmps) = Region.wanted o (yielded ops a.tmps)) : Qt P ops C o v a' := by
  unfold Qt Oper.quietAt at *
  rw [he, hw]
  exact hy
theorem Qt.wpOp {i : Nat} {o : Oper} {v : Value} {a : Act} {w : World} (hi : ops[i]? = some o) (hC : C w) (hy : Qt P ops C o v a) {K : Act → World → Prop} (h : ∀ w', Ext w w' → K (a.put o.dst v) w') : wpOp P ops Q i K a w := by
  unfold Go.wpOp
  simp only [hi]
  rcases hy with ⟨hw, hv⟩ | ⟨hw, rfl⟩
  · rw [if_pos hw]
    refine .inl ?_
    have h3 := hv w hC
    unfold Oper.quietAt at h3
    unfold Oper.wp
    generalize (execOp a.eval o).run P w = r at *
    cases r with
    | ok n w' =>
      cases n <;> simp only [Oper.quietUpon] at h3 <;> simp only [Oper.upon]
      case value u => rw [h3.1, h3.2]; exact h _ (Below.refl _ _)
      case skip => rw [h3.1, ← h3.2]; exact h _ (Below.refl _ _)
      case enter f args =>
        rw [h3.1]
        exact h3.2.mono fun e w'' he => by obtain ⟨he, hw''⟩ := he; subst he; exact h _ hw''
    | halt x w' => simp only [Oper.quietUpon] at h3
  · rw [if_neg (by rw [hw]; simp)]
    exact h _ (Below.refl _ _)
theorem wpOp_putQt {j : Nat} {oi oj : Oper} {v : Value} (hj : ops[j]? = some oj) (hap : oi.apart ops oj = true)
    (hsi : ∀ cs b, oi.op ≠ .select cs b) (hsj : ∀ cs b, oj.op ≠ .select cs b) (hQ : ∀ c a w, Q (.panic c) (a.put oi.dst v) w → Q (.panic c) a w) {K : Act → World → Prop} {a : Act} {w : World}
    (hy : Qt P ops C oi v a) (h : wpOp P ops Q j K (a.put oi.dst v) w) : wpOp P ops Q j (fun a' w' => Qt P ops C oi v a' ∧ K (a'.put oi.dst v) w') a w := by
  obtain ⟨h1, h2, h3⟩ := Oper.apart_spec hap
  have keep : ∀ (b : Act), Qt P ops C oi v b → ∀ u, Qt P ops C oi v (b.put oj.dst u) := fun b hb u => hb.same (execOp_put oi hsi b oj.dst u h3) (wanted_put oi b oj.dst u h3)
  have swap : ∀ (b : Act) u, Qt P ops C oi v b → K ((b.put oi.dst v).put oj.dst u) = K ((b.put oj.dst u).put oi.dst v) := fun b u _ => by rw [Act.put_comm b v u h2]
  unfold wpOp at *
  simp only [hj] at *
  rw [wanted_put oj a oi.dst v h1] at h
  by_cases hw : Region.wanted oj (yielded ops a.tmps) = true
  · rw [if_pos hw] at h ⊢
    rcases h with h | ⟨hasks, hlets⟩
    · refine .inl ?_
      unfold Oper.wp at *
      rw [execOp_put oj hsj a oi.dst v h1] at h
      generalize (execOp a.eval oj).run P w = r at *
      cases r with
      | ok n w' =>
        cases n <;> simp only [Oper.upon] at h ⊢
        case value u => exact ⟨keep a hy u, by rw [← swap a u hy]; exact h⟩
        case skip => exact ⟨keep a hy _, by rw [← swap a _ hy]; exact h⟩
        case defer d =>
          have hyd : Qt P ops C oi v { a with defers := d :: a.defers } := hy.same rfl rfl
          refine ⟨keep _ hyd _, ?_⟩
          rw [← swap _ _ hyd, ← Act.put_defers]
          exact h
        case enter f args =>
          refine Calls.mono h fun e w'' he => ?_
          cases e with
          | returned u => exact ⟨keep a hy u, by rw [← swap a u hy]; exact he⟩
          | panicked c => exact hQ _ _ _ he
          | outgrown => exact he
        case row row args => exact Rows.mono h fun u w'' he => ⟨keep a hy u, by rw [← swap a u hy]; exact he⟩
      | halt x w' =>
        cases x <;> simp only [Oper.upon] at h ⊢
        case panic u => exact hQ _ _ _ h
    · exact .inr ⟨by unfold Oper.asks at *; rw [execOp_put oj hsj a oi.dst v h1] at hasks; exact hasks, hlets⟩
  · rw [if_neg hw] at h ⊢
    exact ⟨keep a hy _, by rw [← swap a _ hy]; exact h⟩

/-- Whatever order is picked; more memory may come at any time; the class holds throughout. -/
def wpRg (P : Program) (md : Region.Mode) (ops : Array Oper) (C : World → Prop) (Q : Exit → Act → World → Prop) (f : Nat) (listed : Array Bool) (a : Act) (w : World) : Prop :=
  match f with
  | 0 => Region.ready md ops listed = [] ∧ ∀ w', C w' → Ext w w' → Q .normal a w'
  | f + 1 => (Region.ready md ops listed = [] → ∀ w', C w' → Ext w w' → Q .normal a w') ∧
    ∀ i ∈ Region.ready md ops listed, ∀ w', C w' → Ext w w' → wpOp P ops Q i (fun a' w'' => C w'' ∧ wpRg P md ops C Q f (listed.setIfInBounds i true) a' w'') a w'
theorem wpRg_ext {f : Nat} {listed : Array Bool} {a : Act} {w w1 : World} (h : wpRg P md ops C Q f listed a w) (he : Ext w w1) : wpRg P md ops C Q f listed a w1 := by
  cases f with
  | zero => exact ⟨h.1, fun w' hc h1 => h.2 w' hc (bel_trans he h1)⟩
  | succ f => exact ⟨fun hr w' hc h1 => h.1 hr w' hc (bel_trans he h1), fun i hi w' hc h1 => h.2 i hi w' hc (bel_trans he h1)⟩
theorem wpAny_of_wpRg (f : Nat) : ∀ (listed : Array Bool) (a : Act) (w : World), C w → wpRg P md ops C Q f listed a w → wpAny P md ops Q f listed a w := by
  induction f with
  | zero => intro listed a w hc h; exact ⟨h.1, h.2 w hc (Below.refl _ _)⟩
  | succ f ih =>
    intro listed a w hc h
    exact ⟨fun hr => h.1 hr w hc (Below.refl _ _), fun i hi => wpOp_mono (fun a' w' h' => ih _ a' w' h'.1 h'.2) (h.2 i hi w hc (Below.refl _ _))⟩
theorem wpRg_first {i : Nat} {oi : Oper} {v : Value} (hCE : ∀ w w', C w → Ext w w' → C w') (hi : ops[i]? = some oi) (hsel : ∀ (j : Nat) (o : Oper) cs b, ops[j]? = some o → o.op ≠ .select cs b)
    (hQ : ∀ c a w, Q (.panic c) (a.put oi.dst v) w → Q (.panic c) a w) (f : Nat) :
    ∀ (listed : Array Bool) (a : Act) (w : World),
      (∀ j oj, ops[j]? = some oj → j ≠ i → listed.getD j true = false → (∀ e ∈ oj.after, Region.binds md e = true → e.on ≠ i) → oi.apart ops oj = true) →
      i ∈ Region.ready md ops listed → Qt P ops C oi v a →
      wpRg P md ops C Q f (listed.setIfInBounds i true) (a.put oi.dst v) w → wpRg P md ops C Q (f + 1) listed a w := by
  induction f with
  | zero =>
    intro listed a w _ hr hy H
    refine ⟨fun e => absurd e (List.ne_nil_of_mem hr), fun j hj w' hc he => ?_⟩
    rcases Decidable.em (j = i) with e | e
    · subst e
      exact hy.wpOp hi hc fun w'' h2 => ⟨hCE _ _ hc h2, wpRg_ext H (bel_trans he h2)⟩
    · have := ready_mono hj e
      rw [H.1] at this
      cases this
  | succ f ih =>
    intro listed a w hfree hr hy H
    refine ⟨fun e => absurd e (List.ne_nil_of_mem hr), fun j hj w' hc he => ?_⟩
    rcases Decidable.em (j = i) with e | e
    · subst e
      exact hy.wpOp hi hc fun w'' h2 => ⟨hCE _ _ hc h2, wpRg_ext H (bel_trans he h2)⟩
    · obtain ⟨hjun, oj, hoj, hall⟩ := mem_ready.1 hj
      have hnot : ∀ e ∈ oj.after, Region.binds md e = true → e.on ≠ i := by
        intro e he hb heq
        have h1 := hall e he hb
        rw [heq, getD_both (mem_ready.1 hr).1] at h1
        cases h1
      have h2 := wpOp_putQt hoj (hfree j oj hoj e hjun hnot) (fun cs b => hsel i oi cs b hi) (fun cs b => hsel j oj cs b hoj) hQ hy (H.2 j (ready_mono hj e) w' hc he)
      refine wpOp_mono (fun a' w'' h3 => ⟨h3.2.1, ?_⟩) h2
      refine ih (listed.setIfInBounds j true) a' w'' (fun k ok hk hki hun' hno => ?_) (ready_mono hr (Ne.symm e)) h3.1 ?_
      · refine hfree k ok hk hki ?_ hno
        rcases Decidable.em (j = k) with ejk | ejk
        · rw [← ejk]; exact hjun
        · rwa [getD_set_ne true ejk] at hun'
      · rw [Array.setIfInBounds_comm _ _ e]
        exact h3.2.2

/-- The walk: quiet operations. -/
def wpHead (P : Program) (ops : Array Oper) (C : World → Prop) (L : Act → Prop) : List Oper → Act → Prop
  | [], a => L a
  | o :: rest, a => ∃ v, Qt P ops C o v a ∧ wpHead P ops C L rest (a.put o.dst v)
/-- The walk: the others, one behind the other; more memory may come before each. -/
def wpTail (P : Program) (ops : Array Oper) (C : World → Prop) (Q : Exit → Act → World → Prop) : List Oper → Act → World → Prop
  | [], a, w => ∀ w', C w' → Ext w w' → Q .normal a w'
  | o :: rest, a, w => ∀ w', C w' → Ext w w' → Region.wanted o (yielded ops a.tmps) = true ∧ o.wp P a w' (fun a' w'' => C w'' ∧ wpTail P ops C Q rest a' w'') Q
theorem wpTail_drawn {l : List Oper} {a : Act} {w : World} (h : wpTail P ops C Q l a w) : wpTail P ops C Q l a { w with drawn := w.drawn + 1 } := by
  cases l with
  | nil => exact fun w' hc he => h w' hc ⟨he.os, he.tape, he.output, he.size, he.block⟩
  | cons o r => exact fun w' hc he => h w' hc ⟨he.os, he.tape, he.output, he.size, he.block⟩
theorem wpRg_of_tail (l : List Oper) : ∀ (k : Nat) (listed : Array Bool) (a : Act) (w : World), (∀ j, l[j]? = ops[k + j]?) → Region.seqB md ops l.length k listed = true → wpTail P ops C Q l a w → wpRg P md ops C Q l.length listed a w := by
  induction l with
  | nil => intro k listed a w _ hB h; exact ⟨by simpa [Region.seqB] using hB, h⟩
  | cons o l ih =>
    intro k listed a w hl hB h
    have h0 : ops[k]? = some o := by simpa using (hl 0).symm
    simp only [List.length_cons, Region.seqB, Bool.and_eq_true, decide_eq_true_eq] at hB
    refine ⟨fun e => (by rw [hB.1] at e; cases e), fun i hi w' hc he => ?_⟩
    obtain rfl : i = k := by rw [hB.1] at hi; simpa using hi
    obtain ⟨hw, h1⟩ := h w' hc he
    unfold wpOp
    simp only [h0]
    rw [if_pos hw]
    exact .inl (Oper.wp_mono (fun a' w'' h2 => ⟨h2.1, ih (i + 1) _ a' w'' (fun j => by have := hl (j + 1); simpa [Nat.add_assoc, Nat.add_comm 1 j] using this) hB.2 h2.2⟩) h1)
theorem wpRg_of_head {g n : Nat} {L : Act → Prop} {w : World} (hCE : ∀ w w', C w → Ext w w' → C w') (hsel : Region.noSelect ops = true) (hQ : ∀ (d : Option Tmp) v c a w, Q (.panic c) (a.put d v) w → Q (.panic c) a w)
    (hL : ∀ listed a, Region.seqB md ops g n listed = true → L a → wpRg P md ops C Q g listed a w) (l : List Oper) :
    ∀ (k : Nat) (listed : Array Bool) (a : Act), (∀ j, j < l.length → l[j]? = ops[k + j]?) → k + l.length = n → Region.lexHead md ops g l.length k listed = true → wpHead P ops C L l a → wpRg P md ops C Q (l.length + g) listed a w := by
  induction l with
  | nil =>
    intro k listed a _ hk hB h
    have e : k = n := by simpa using hk
    rw [e] at hB
    rw [List.length_nil, Nat.zero_add]
    exact hL _ _ (by simpa [Region.lexHead] using hB) h
  | cons o l ih =>
    intro k listed a hl hk hB h
    have h0 : ops[k]? = some o := by simpa using (hl 0 (by simp)).symm
    simp only [List.length_cons, Region.lexHead, Bool.and_eq_true] at hB hk
    have hr : k ∈ Region.ready md ops listed := by simpa using hB.1.1
    obtain ⟨v, hy, hK⟩ := h
    rw [List.length_cons, Nat.add_right_comm]
    refine wpRg_first hCE h0 (Region.noSelect_spec hsel) (hQ _ _) _ listed a w (Region.free_spec h0 hB.1.2) hr hy ?_
    refine ih (k + 1) _ _ (fun j hj => ?_) (by omega) hB.2 hK
    have := hl (j + 1) (by simp; omega)
    simpa [Nat.add_assoc, Nat.add_comm 1 j] using this
end
section
variable {P : Program} {C : World → Prop} {ops : Array Oper}
theorem wp_region_tail {id : Nat} {Q : Exit → Act → World → Prop} {a : Act} {w : World} {l : List Oper} (n : Nat) (hm : P.follows .mixedOrders = true) (hB : (Region.noSelect l.toArray && decide (n < l.length) && Region.lexHead .any l.toArray (l.length - n) n 0 (Array.replicate l.length false)) = true)
    (hQ : ∀ (d : Option Tmp) v c a w, Q (.panic c) (a.put d v) w → Q (.panic c) a w) (hC : C { w with drawn := w.drawn + 1 }) (hCE : ∀ w w', C w → Ext w w' → C w')
    (h : wpHead P l.toArray C (fun a' => wpTail P l.toArray C Q (l.drop n) a' w) (l.take n) a) : (Code.region id l.toArray true).wp P Q a w := by
  simp only [Bool.and_eq_true, decide_eq_true_eq] at hB
  obtain ⟨⟨hsel, hn⟩, hlex⟩ := hB
  have htl : (l.take n).length = n := by simp; omega
  have hdl : (l.drop n).length = l.length - n := by simp
  refine wp_region_any hm (wpAny_of_wpRg _ _ _ _ hC ?_)
  have H := wpRg_of_head (md := .any) (g := l.length - n) (n := n) (w := { w with drawn := w.drawn + 1 }) hCE hsel hQ (fun listed a' hs hL => by
    have h4 : wpTail P l.toArray C Q (l.drop n) a' { w with drawn := w.drawn + 1 } := wpTail_drawn hL
    have h3 := wpRg_of_tail (ops := l.toArray) (md := .any) (l.drop n) n listed a' { w with drawn := w.drawn + 1 } (fun j => by simp [List.getElem?_drop]) (by rw [hdl]; exact hs) h4
    rwa [hdl] at h3) (l.take n) 0 (Array.replicate l.length false) a (fun j hj => by rw [htl] at hj; simp [hj]) (by simpa using htl) (by rw [htl]; exact hlex) h
  rw [htl, show n + (l.length - n) = l.length by omega] at H
  simpa using H
theorem headV {L : Act → Prop} {o : Oper} {rest : List Oper} {ts : Array Value} {ds : List Deferred} {v : Value} {d : Nat} (hw : Region.wanted o (yielded ops ts) = true) (hd : o.dst = some d) (h1 : ∀ w', C w' → o.quietAt P { tmps := ts, defers := ds } (Ext w') w' v)
    (h2 : wpHead P ops C L rest { tmps := ts.setIfInBounds d v, defers := ds }) : wpHead P ops C L (o :: rest) { tmps := ts, defers := ds } :=
  ⟨v, .inl ⟨hw, h1⟩, by rw [hd]; exact h2⟩
theorem headSkip {L : Act → Prop} {o : Oper} {rest : List Oper} {ts : Array Value} {ds : List Deferred} {d : Nat} (hw : Region.wanted o (yielded ops ts) = false) (hd : o.dst = some d)
    (h2 : wpHead P ops C L rest { tmps := ts.setIfInBounds d undef, defers := ds }) : wpHead P ops C L (o :: rest) { tmps := ts, defers := ds } :=
  ⟨undef, .inr ⟨hw, rfl⟩, by rw [hd]; exact h2⟩
theorem tailV {Q : Exit → Act → World → Prop} {o : Oper} {rest : List Oper} {a : Act} {w : World} (hw : Region.wanted o (yielded ops a.tmps) = true) (h : ∀ w', C w' → Ext w w' → o.wp P a w' (fun a' w'' => C w'' ∧ wpTail P ops C Q rest a' w'') Q) : wpTail P ops C Q (o :: rest) a w :=
  fun w' hc he => ⟨hw, h w' hc he⟩
theorem tailK {Q : Exit → Act → World → Prop} {o : Oper} {rest : List Oper} {a : Act} {w : World} (hw : Region.wanted o (yielded ops a.tmps) = true)
    (h : ∀ w', C w' → Ext w w' → ∀ K : Act → World → Prop, (∀ a' w'', C w'' → wpTail P ops C Q rest a' w'' → K a' w'') → o.wp P a w' K Q) : wpTail P ops C Q (o :: rest) a w :=
  fun w' hc he => ⟨hw, h w' hc he _ fun _ _ h1 h2 => ⟨h1, h2⟩⟩
theorem wp_region_tailN {id : Nat} {Q : Exit → Act → World → Prop} {a : Act} {w : World} {l : List Oper} (n : Nat) (hm : P.follows .mixedOrders = true) (hB : (Region.noSelect l.toArray && decide (n < l.length) && Region.lexHead .any l.toArray (l.length - n) n 0 (Array.replicate l.length false)) = true)
    (hC : C { w with drawn := w.drawn + 1 }) (hCE : ∀ w w', C w → Ext w w' → C w')
    (h : wpHead P l.toArray C (fun a' => wpTail P l.toArray C (NoPanic Q) (l.drop n) a' w) (l.take n) a) : (Code.region id l.toArray true).wp P Q a w :=
  wp_region_noPanic (wp_region_tail n hm hB (fun _ _ _ _ _ h => h) hC hCE h)
/-- A call's contract in a quiet place. -/
theorem callsX {f : FuncId} {args : Array Value} {w' : World} {v : Value} (h : Calls P f args w' (Ret w' v)) : Calls P f args w' (fun e w'' => e = .returned v ∧ Ext w' w'') := h.mono fun _ _ h2 => ⟨h2.1, h2.2⟩
/-- The class for an append onto a row of the call's own: all else is as it was. -/
def Gr (w : World) (A : Option Addr) (w' : World) : Prop := w.grownBy w' (ob A)
theorem Gr.drawn (w : World) (A : Option Addr) : Gr w A { w with drawn := w.drawn + 1 } := ⟨rfl, rfl, rfl, Nat.le_refl _, fun _ _ _ => rfl⟩
theorem Gr.ext {w : World} {A : Option Addr} {w1 w2 : World} (h : Gr w A w1) (he : Ext w1 w2) : Gr w A w2 :=
  ⟨he.os.trans h.os, he.tape.trans h.tape, he.output.trans h.output, Nat.le_trans h.size he.size, fun k hk hne => (he.block k (Nat.lt_of_lt_of_le hk h.size)).trans (h.block k hk hne)⟩
theorem Gr.trans {w : World} {A : Option Addr} {w1 w2 : World} (h : Gr w A w1) (k : w1.grownBy w2 (ob A)) : Gr w A w2 :=
  ⟨k.os.trans h.os, k.tape.trans h.tape, k.output.trans h.output, Nat.le_trans h.size k.size, fun b hb hne => (k.block b (Nat.lt_of_lt_of_le hb h.size) hne).trans (h.block b hb hne)⟩
theorem Gr.cells {w w' : World} {A : Option Addr} (h : Gr w A w') : ∀ b o, b < w.heap.size → some b ≠ ob A → w'.cell? ⟨b, o, none⟩ = w.cell? ⟨b, o, none⟩ := fun b _ hb hne => World.cell?_of_block (h.block b hb hne)
/-- The class where nothing that was there is written. -/
def ExC (w w' : World) : Prop := Below w.heap.size w w'
theorem ExC.drawn (w : World) : ExC w { w with drawn := w.drawn + 1 } := ⟨rfl, rfl, rfl, Nat.le_refl _, fun _ _ => rfl⟩
theorem ExC.ext {w w1 w2 : World} (h : ExC w w1) (he : Ext w1 w2) : ExC w w2 := bel_trans h he
theorem ExC.cells {w w' : World} (h : ExC w w') : ∀ b o, b < w.heap.size → w'.cell? ⟨b, o, none⟩ = w.cell? ⟨b, o, none⟩ := (bcell h).1
theorem Gr.cell {w w' : World} {A : Option Addr} {b : Nat} (h : Gr w A w') (hb : b < w.heap.size) (hne : some b ≠ ob A) (o : Nat) : w'.cell? ⟨b, o, none⟩ = w.cell? ⟨b, o, none⟩ :=
  World.cell?_of_block (h.block b hb hne)
end
end Go.Proofs.Ytagkopemcabkpaa

/- The faces of a cube that rolls over a shape: the program. -/
namespace Go.Proofs.Ytagkopemcabkpaa
open Go.RowKit
set_option linter.unusedVariables false
attribute [local go_sem ↓] Go.wp_at_zero Go.wp_at_succ

/-- The map's entries: cells and the headers of their cubes. -/
def ents (l : List C) (hs : List H) : List (C × Value) := (l.zip hs).map fun p => (p.1, hd p.2)
theorem ents_push {l : List C} {hs : List H} (h : hs.length = l.length) (c : C) (x : H) : ents (l ++ [c]) (hs ++ [x]) = ents l hs ++ [(c, hd x)] := by
  unfold ents
  rw [List.zip_append h.symm]
  simp
theorem ents_none {l : List C} {hs : List H} {c : C} (hc : c ∉ l) : lookC (ents l hs) c = none := by
  unfold lookC
  rw [Option.map_eq_none_iff, List.find?_eq_none]
  intro p hp h
  unfold ents at hp
  obtain ⟨q, hq, rfl⟩ := List.mem_map.1 hp
  have : q.1 = c := by simpa using h
  exact hc (this ▸ (List.of_mem_zip hq).1)
theorem ents_some {l : List C} {hs : List H} (hn : l.Nodup) (h : hs.length = l.length) {k : Nat} (hk : k < l.length) : lookC (ents l hs) l[k] = some (hd (hs[k]'(by omega))) := by
  induction l generalizing hs k with
  | nil => simp at hk
  | cons a t ih =>
    cases hs with
    | nil => simp at h
    | cons x u =>
      unfold lookC ents
      rw [List.zip_cons_cons, List.map_cons, List.find?_cons]
      cases k with
      | zero => simp
      | succ k =>
        have hne : (a == (a :: t)[k + 1]) = false := by
          simp only [List.getElem_cons_succ, beq_eq_false_iff_ne, ne_eq]
          intro e
          exact (List.nodup_cons.1 hn).1 (e ▸ List.getElem_mem _)
        rw [hne]
        exact ih (List.nodup_cons.1 hn).2 (by simpa using h) (by simpa using hk)
theorem ents_isSome {l : List C} {hs : List H} (h : hs.length = l.length) (hn : l.Nodup) (c : C) : (lookC (ents l hs) c).isSome = hasC l c.1 c.2 := by
  by_cases hc : c ∈ l
  · rw [(hasC_iff _ _).2 hc]
    obtain ⟨k, hk, rfl⟩ := List.mem_iff_getElem.1 hc
    rw [ents_some hn h hk]; rfl
  · have : hasC l c.1 c.2 = false := by rw [Bool.eq_false_iff]; exact fun e => hc ((hasC_iff _ _).1 e)
    rw [this, ents_none hc]; rfl
/-- The letter of a direction. -/
def dl (d : Nat) : Int := match d with
  | 0 => 114
  | 1 => 100
  | 2 => 108
  | _ => 117
theorem stepDir_i (x y mx my : Int) (d : Nat) (hd : d < 4) (hm : mvF (x, y) d = (mx, my)) (hx : -1000 ≤ x ∧ x ≤ 1000) (hy : -1000 ≤ y ∧ y ≤ 1000) (w : World) :
    Calls Try.prog 54 #[.agg #[.int .i64 x, .int .i64 y], .int .u8 (dl d)] w (Ret w (.tuple #[.agg #[.int .i64 mx, .int .i64 my], .bool true])) := by
  rcases (by omega : d = 0 ∨ d = 1 ∨ d = 2 ∨ d = 3) with rfl | rfl | rfl | rfl
  · refine (stepFrom_i x y 114 w).mono ?_
    rintro e w' ⟨rfl, hb⟩
    simp only [mvF, Prod.mk.injEq] at hm
    have h : stepW (x, y) 114 = some (mx, my) := by
      show some (wrap64 (x + 1), y) = _
      rw [IntWalk.wrap64_in _ (by omega), hm.1, hm.2]
    rw [h]; exact ⟨rfl, hb⟩
  · refine (stepFrom_i x y 100 w).mono ?_
    rintro e w' ⟨rfl, hb⟩
    simp only [mvF, Prod.mk.injEq] at hm
    have h : stepW (x, y) 100 = some (mx, my) := by
      show some (x, wrap64 (y + 1)) = _
      rw [IntWalk.wrap64_in _ (by omega), hm.1, hm.2]
    rw [h]; exact ⟨rfl, hb⟩
  · refine (stepFrom_i x y 108 w).mono ?_
    rintro e w' ⟨rfl, hb⟩
    simp only [mvF, Prod.mk.injEq] at hm
    have h : stepW (x, y) 108 = some (mx, my) := by
      show some (wrap64 (x - 1), y) = _
      rw [IntWalk.wrap64_in _ (by omega), hm.1, hm.2]
    rw [h]; exact ⟨rfl, hb⟩
  · refine (stepFrom_i x y 117 w).mono ?_
    rintro e w' ⟨rfl, hb⟩
    simp only [mvF, Prod.mk.injEq] at hm
    have h : stepW (x, y) 117 = some (mx, my) := by
      show some (x, wrap64 (y - 1)) = _
      rw [IntWalk.wrap64_in _ (by omega), hm.1, hm.2]
    rw [h]; exact ⟨rfl, hb⟩
theorem blk_two_i {w w' : World} {g : Nat} {t : TypeId} {x y u v : Value} (h : Blk w g t #[x, y]) (hb : Ext ((w.setCell ⟨g, 0, none⟩ u).setCell ⟨g, 1, none⟩ v) w') : Blk w' g t #[u, v] := by
  have h2 := (h.set_ 0 u).set_ 1 v
  have h3 : Blk ((w.setCell ⟨g, 0, none⟩ u).setCell ⟨g, 1, none⟩ v) g t #[u, v] := by simpa using h2
  exact h3.below hb
/-- The map, the cubes' rows, the queue. -/
structure NetI (base bm : Nat) (L : L2) (hs : List H) (g off m c : Nat) (todo : List C) (w : World) : Prop where
  map : MapC w bm (ents (cs L) hs)
  rows : RowsH w hs (L.map (·.2))
  q : World.ownsQ w base 55 2 g off m c (vC todo)
  sep : away hs g
  bas : base ≤ bm
theorem NetI.below {base bm : Nat} {L : L2} {hs : List H} {g off m c : Nat} {todo : List C} {w w' : World} (h : NetI base bm L hs g off m c todo w) (hb : Below w.heap.size w w') : NetI base bm L hs g off m c todo w' :=
  ⟨h.map.below hb, h.rows.below hb, ownQ_keep h.q hb, h.sep, h.bas⟩
theorem map_ne {w : World} {bm g base e size off n c : Nat} {es : List (C × Value)} {vs : List Value} (h : MapC w bm es) (hq : World.ownsQ w base e size g off n c vs) : bm ≠ g := by
  rintro rfl
  obtain ⟨arr, cl, h1, _⟩ := h
  obtain ⟨_, _, _, _, cur, h2, _⟩ := hq
  rw [h1] at h2
  cases h2
theorem map_away {w : World} {bm : Nat} {es : List (C × Value)} {hs : List H} {F : List (List Int)} (h : MapC w bm es) (hr : RowsH w hs F) : away hs bm := by
  intro x hx e
  obtain ⟨k, hk, rfl⟩ := List.mem_iff_getElem.1 hx
  have h1 := hr.at_ k hk (by rw [← hr.len]; exact hk)
  obtain ⟨g, off, hA, _, hc⟩ := RdI.at_ h1.2.2 h1.2.1
  rw [hA] at e
  simp only [ob, Option.map_some, Option.some.injEq] at e
  subst e
  obtain ⟨arr, cl, hm, _⟩ := h
  simp [World.cell?, hm] at hc
theorem NetI.len {base bm : Nat} {L : L2} {hs : List H} {g off m c : Nat} {todo : List C} {w : World} (h : NetI base bm L hs g off m c todo w) : hs.length = (cs L).length := by
  have := h.rows.len
  rw [List.length_map] at this
  rw [cs_len]; exact this
theorem NetI.push {base bm : Nat} {L : L2} {hs : List H} {g off m c : Nat} {todo : List C} {w2 w7 w8 : World} {x : C} {D : Option Addr} {cf : Nat} {f : List Int} {o : Obj} {g' off' c' : Nat}
    (h : NetI base bm L hs g off m c todo w2) (hg7 : w2.grownBy w7 (some bm)) (hm7 : MapC w7 bm (ents (cs L) hs ++ [(x, .slice D 6 cf)])) (hD : Rd w7 D (vI f)) (h6 : f.length = 6) (hDb : ∀ k, ob D = some k → w2.heap.size ≤ k)
    (hq8 : World.ownsQ w8 base 55 2 g' off' (m + 1) c' (vC (todo ++ [x]))) (hg8 : (w7.alloc o).grownBy w8 (some g)) (hg' : g' = g ∨ g' = (w7.alloc o).heap.size) :
    NetI base bm (L ++ [(x, f)]) (hs ++ [(D, 6, cf)]) g' off' (m + 1) c' (todo ++ [x]) w8 := by
  have hne := map_ne h.map h.q
  have hglt := (ownQ_lt h.q).2
  have hz7 := hg7.size
  have e1 : ents (cs (L ++ [(x, f)])) (hs ++ [(D, 6, cf)]) = ents (cs L) hs ++ [(x, .slice D 6 cf)] := by rw [cs_app]; exact ents_push h.len x (D, 6, cf)
  obtain ⟨gd, hgd, hgl⟩ := hD.blk (by omega)
  have hgd2 := hDb gd hgd
  have haw := map_away h.map h.rows
  have r7 : RowsH w7 hs (L.map (·.2)) := h.rows.grown hg7 (fun k e => by injection e with e; subst e; exact haw)
  have r7p := r7.push (c := cf) hD h6.symm (by omega)
  have aw : away (hs ++ [(D, 6, cf)]) g := away_push h.sep (fun e => by rw [hgd] at e; injection e with e; omega)
  have awn : away (hs ++ [(D, 6, cf)]) (w7.alloc o).heap.size := r7p.away_new (by simp)
  have hsz : (w7.alloc o).heap.size = w7.heap.size + 1 := by simp
  refine ⟨?_, ?_, hq8, ?_, h.bas⟩
  · rw [e1]; exact (hm7.alloc o).grown hg8 (fun e => hne (by injection e))
  · rw [List.map_append]
    exact (r7p.below (Below.alloc (Below.refl _ _) (Nat.le_refl _) o)).grown hg8 (fun k e => by injection e with e; subst e; exact aw)
  · rcases hg' with rfl | rfl
    · exact aw
    · exact awn
theorem blk_map {w : World} {bm p : Nat} {t : TypeId} {es : List (C × Value)} {vs : Array Value} (h : MapC w bm es) (hq : Blk w p t vs) : p ≠ bm := by
  rintro rfl
  obtain ⟨arr, cl, h1, _⟩ := h
  unfold Blk at hq
  rw [h1] at hq
  cases hq
/-- The class for a store at a new key: what another key has stays. -/
def GrM (w : World) (bm : Nat) (c : C) (v : Value) (w' : World) : Prop := w.grownBy w' (some bm) ∧ ∃ es, MapC w' bm es ∧ lookC es c = some v
theorem GrM.drawn {w : World} {bm : Nat} {c : C} {v : Value} {es : List (C × Value)} (h : MapC w bm es) (hl : lookC es c = some v) : GrM w bm c v { w with drawn := w.drawn + 1 } := ⟨⟨rfl, rfl, rfl, Nat.le_refl _, fun _ _ _ => rfl⟩, es, h.at_ rfl, hl⟩
theorem GrM.ext {w w1 w2 : World} {bm : Nat} {c : C} {v : Value} (h : GrM w bm c v w1) (he : Ext w1 w2) : GrM w bm c v w2 := by
  obtain ⟨h1, es, h2, h3⟩ := h
  exact ⟨Gr.ext (A := some ⟨bm, 0, none⟩) h1 he, es, h2.below he, h3⟩
theorem GrM.cells {w w' : World} {bm : Nat} {c : C} {v : Value} (h : GrM w bm c v w') : ∀ b o, b < w.heap.size → some b ≠ some bm → w'.cell? ⟨b, o, none⟩ = w.cell? ⟨b, o, none⟩ := fun b o hb hne => World.cell?_of_block (h.1.block b hb hne)
theorem GrM.look {w w' : World} {bm : Nat} {x y : Int} {v : Value} (h : GrM w bm (x, y) v w') : (Instr.lookup 56 (.map (some bm)) (.agg #[.int .i64 x, .int .i64 y]) false).run Try.prog w' = .ok v w' := by
  obtain ⟨h1, es, h2, h3⟩ := h
  have := run_lookC h2 Try.underlying56 (z := .slice none 0 0) (by kernel_rfl) (x, y) false
  rw [h3] at this
  exact this
theorem GrM.put {w w1 w2 : World} {bm : Nat} {c d : C} {v u : Value} {es : List (C × Value)} (h : GrM w bm c v w1) (hg : w1.grownBy w2 (some bm)) (hm : MapC w2 bm (es ++ [(d, u)])) (hl : lookC es c = some v) : GrM w bm c v w2 :=
  ⟨h.1.trans hg, _, hm, by rw [lookC_app, hl]; rfl⟩
theorem faces_no_i {xs : List C} (h : isConn xs = false) : faces xs = [] := by unfold faces; rw [h]; rfl
theorem faces_yes_i {xs : List C} (h : isConn xs = true) : faces xs = xs.map (face0 (facesL xs)) := by unfold faces; rw [h]; rfl
set_option maxRecDepth 100000 in
set_option maxHeartbeats 3200000 in
theorem FacesOf_i (A : Option Addr) (n c : Nat) (xs : List C) (w : World) (hr : Rd w A (vC xs)) (hl : xs.length = n) (hn : n ≤ 1099511627776) :
    Calls Try.prog 12 #[.slice A n c] w (RetS2 w 3 1 (vI (faces xs)) (.bool (isConn xs))) := by
  have HL := Lib.hid hl
  cases hc : isConn xs with
  | false =>
    have HV := Lib.hid (faces_no_i hc)
    have HC := Lib.hid hc
    clear hc hl
    go_enter Try.func12, Try.ntmps12
    go_wp2_with (go_at_call 53; refine (IsConnectedShape_i _ _ _ xs _ hr HL.out (by omega)).mono ?_; rw [HC.out]; rintro e w1 ⟨rfl, hb1⟩)
    go_ret2
    exact ⟨none, 0, 0, rfl, by rw [HV.out]; exact own_nil _ _ _ _, (by (repeat (first | with_reducible exact Below.refl _ _ | with_reducible assumption | with_reducible apply bel_alloc | with_reducible apply bel_drew | with_reducible apply bel_drewN | ((with_reducible refine bel_set ?_ ?_); rotate_left; (simp <;> omega)) | (with_reducible refine bel_trans ?_ (by with_reducible assumption)))))⟩
  | true =>
    have HV := Lib.hid (faces_yes_i hc)
    have hs := conn_shape hc
    have hlen := shape_len hs
    have hsm := shape_small hs
    have hn8 : n ≤ 8 := by omega
    have hn1 : 1 ≤ n := by omega
    have hnp : (0 : Int) < (n : Int) := by omega
    have h0x : 0 < xs.length := by omega
    have hs0 : xs[0] = s0 xs := by simp [s0, List.getD_eq_getElem?_getD, h0x]
    have HGD := fun k => seqF_good h0x k
    have HG := Lib.hid HGD
    have HGL : Hid (∀ k, (seqF xs k).length ≤ n) := fun k => by have := seqF_len h0x k; omega
    have HEND : Hid (∀ i, (seqF xs (4 * i)).length ≤ i → seqF xs (4 * i) = facesL xs) := fun i h => seqF_end h0x h
    have HALL := Lib.hid (facesL_all hc)
    have HSM := Lib.hid hsm
    have HC := Lib.hid hc
    have HS0 := Lib.hid hs0
    clear hc hs hlen hsm hl hn hs0 HGD
    go_enter Try.func12, Try.ntmps12
    go_wp2_with fail
    refine (IsConnectedShape_i _ _ _ xs _ hr HL.out (by omega)).mono ?_
    rw [HC.out]
    rintro e w1 ⟨rfl, hb1⟩
    obtain ⟨ga, offa, rfl, hga, z1, z2⟩ := RdC.at_ (hr.below hb1) h0x
    rw [HS0.out] at z1 z2
    simp only [Nat.zero_mul, Nat.add_zero] at z1 z2
    obtain ⟨⟨zx, zy⟩, hz⟩ : ∃ p, s0 xs = p := ⟨_, rfl⟩
    rw [hz] at z1 z2
    have HZ := Lib.hid hz
    have hbs := hb1.size
    have hmm := @run_makeMap Try.prog
    clear hz
    go_wp2_with fail
    obtain ⟨w2, hrun, hM2, hg2, hz2⟩ := run_updC (w := (w1.alloc (.map #[] 0)).alloc (.cells #[.int .i64 0, .int .i64 1, .int .i64 2, .int .i64 3, .int .i64 4, .int .i64 5] 3)) (T := 56) ((MapC.made w1).alloc _) Try.underlying56 (zx, zy) (.slice (some ⟨w1.heap.size + 1, 0, none⟩) 6 6) rfl
    simp only [cellV] at hrun
    rw [hrun]
    have hb12 : Below w1.heap.size w1 w2 := by
      refine bel_grown (row := some w1.heap.size) ?_ hg2 (fun k e => by injection e with e; omega)
      exact bel_alloc (bel_alloc (Below.refl _ _) _) _
    have hz22 : w2.heap.size = w1.heap.size + 1 + 1 := by rw [hz2]; simp
    have y1 := keep_below hb12 z1
    have y2 := keep_below hb12 z2
    have hb02 := bel_trans hb1 hb12
    have hbs2 := hb02.size
    have HZ22 := Lib.hid hz22
    clear hrun hmm hz2 hz22
    go_wp2_with fail
    have hz22 := HZ22.out
    have hini : NetI w.heap.size w1.heap.size [(s0 xs, id6)] [(some ⟨w1.heap.size + 1, 0, none⟩, 6, 6)] w2.heap.size 0 1 1 [s0 xs] (w2.alloc (.cells #[.int .i64 zx, .int .i64 zy] 55)) := by
      rw [HZ.out]
      refine ⟨hM2.alloc _, ?_, ?_, ?_, hbs⟩
      · refine ⟨rfl, fun k a b => ?_⟩
        have e : k = 0 := by have : k < 1 := a; omega
        subst e
        refine ⟨rfl, by simp [id6], ?_⟩
        have hr3 : Rd ((w1.alloc (.map #[] 0)).alloc (.cells #[.int .i64 0, .int .i64 1, .int .i64 2, .int .i64 3, .int .i64 4, .int .i64 5] 3)) (some ⟨w1.heap.size + 1, 0, none⟩) (vI id6) := by
          have := rd_new (w1.alloc (.map #[] 0)) 3 #[.int .i64 0, .int .i64 1, .int .i64 2, .int .i64 3, .int .i64 4, .int .i64 5]
          simpa [vI, id6] using this
        exact (hr3.grown hg2 (fun g h e => by simp only [ob, Option.map_some, Option.some.injEq] at h e; omega)).alloc _
      · obtain ⟨g, hg, hq⟩ := ownQ_of (own_newC w2 55 zx zy hbs2) (by omega)
        injection hg with hg
        injection hg with hg
        subst hg
        exact hq
      · intro h hh
        simp only [List.mem_singleton] at hh
        rw [hh]
        simp only [ob, Option.map_some, ne_eq, Option.some.injEq]
        omega
    have HI := Lib.hid hini
    clear hini hz22
    generalize hbm : w1.heap.size = bm at HI
    have HBM := Lib.hid hbm
    clear hbm
    go_loopw [5] (fun e wr => ∃ (i m off cp g : Nat) (hs : List H), e = .slice (some ⟨g, off, none⟩) m cp ∧ i + m = (seqF xs (4 * i)).length ∧ NetI w.heap.size bm (seqF xs (4 * i)) hs g off m cp ((cs (seqF xs (4 * i))).drop i) wr ∧ Below w.heap.size w wr) (fun e wr => n + lenV e - mapSz wr bm)
    case atStart => exact ⟨0, 1, 0, 1, _, _, rfl, rfl, HI.out, (by (repeat (first | with_reducible exact Below.refl _ _ | with_reducible assumption | with_reducible apply bel_alloc | with_reducible apply bel_drew | with_reducible apply bel_drewN | ((with_reducible refine bel_set ?_ ?_); rotate_left; (simp <;> omega)) | (with_reducible refine bel_trans ?_ (by with_reducible assumption)))))⟩
    case round =>
      clear HI HZ hb1 z1 z2 y1 y2 hga hbs hM2 hg2 hb12 HZ22 hb02 hbs2 HBM
      obtain ⟨i, m, off, cp, g, hs, rfl, hm, hT, hb⟩ := hrel
      by_cases hlt : 0 < m
      · have hlt2 : (0 : Int) < (m : Int) := by omega
        have hgd := HG.out (4 * i)
        have hle := HGL.out (4 * i)
        have HSZ : Hid (mapSz wr bm = (seqF xs (4 * i)).length) := by show mapSz wr bm = _; rw [hT.map.sz]; have := hT.len; simp [ents, cs_len] at this ⊢; omega
        obtain ⟨m', rfl⟩ : ∃ m', m = m' + 1 := ⟨m - 1, by omega⟩
        have hiL : i < (cs (seqF xs (4 * i))).length := by rw [cs_len]; omega
        have hdr := List.drop_eq_getElem_cons hiL
        have hcx : (cs (seqF xs (4 * i)))[i] = ((seqF xs (4 * i)).getD i p0).1 := by rw [List.getD_eq_getElem?_getD, List.getElem?_eq_getElem (by omega)]; simp [cs]
        have hsm0 := HSM.out ((seqF xs (4 * i)).getD i p0).1 (hgd.sub _ (by rw [← hcx]; exact List.getElem_mem hiL))
        rw [hcx] at hdr
        obtain ⟨⟨⟨x, y⟩, f⟩, hq⟩ : ∃ q, (seqF xs (4 * i)).getD i p0 = q := ⟨_, rfl⟩
        rw [hq] at hdr hsm0
        simp only at hdr hsm0
        obtain ⟨⟨sx1, sx2⟩, ⟨sy1, sy2⟩⟩ := hsm0
        simp only at sx1 sx2 sy1 sy2
        rw [hdr] at hT
        obtain ⟨g', off', hA, hgw, c1, c2⟩ := RdC.at_ (Rd.of_ownQ hT.q) (k := 0) (by simp)
        simp only [Option.some.injEq, Addr.mk.injEq, and_true] at hA
        obtain ⟨rfl, rfl⟩ := hA
        simp only [List.getElem_cons_zero, Nat.zero_mul, Nat.add_zero] at c1 c2
        have hqt := ownQ_tail hT.q
        have hvd : (vC ((x, y) :: (cs (seqF xs (4 * i))).drop (i + 1))).drop 2 = vC ((cs (seqF xs (4 * i))).drop (i + 1)) := rfl
        rw [hvd] at hqt
        have hgltq := (ownQ_lt hT.q).2
        have hT1 : NetI w.heap.size bm (seqF xs (4 * i)) hs g (if cp = 1 then off else off + 2) m' (cp - 1) ((cs (seqF xs (4 * i))).drop (i + 1)) wr := ⟨hT.map, hT.rows, hqt, hT.sep, hT.bas⟩
        have hm8 : m' ≤ 8 := by omega
        have hcp : cp ≤ maxLen := by have := hT.q.2.2.1; exact this
        have hcp1 : m' + 1 ≤ cp := hT.q.2.1
        have HQ := Lib.hid hq
        have HM := Lib.hid hm
        have HT := Lib.hid hT1
        clear hq hm hT hT1 hqt hvd hdr hcx hgd
        unfold maxLen at hcp
        go_upto_region 7 with fail
        go_cut [5] (fun s wx => ∃ off1 cp1, s = .slice (some ⟨g, off1, none⟩) m' cp1 ∧ NetI w.heap.size bm (seqF xs (4 * i)) hs g off1 m' cp1 ((cs (seqF xs (4 * i))).drop (i + 1)) wx ∧ Blk wx wr.heap.size 55 #[.int .i64 x, .int .i64 y] ∧ Below wr.heap.size wr wx)
        case first =>
          by_cases h1 : cp = 1
          · obtain rfl : m' = 0 := by omega
            subst h1
            go_wp2_with fail
            go_meet
            exact ⟨_, _, rfl, HT.out.below (bel_alloc (Below.refl _ _) _), Blk.new _ _ _, (by (repeat (first | with_reducible exact Below.refl _ _ | with_reducible assumption | with_reducible apply bel_alloc | with_reducible apply bel_drew | with_reducible apply bel_drewN | ((with_reducible refine bel_set ?_ ?_); rotate_left; (simp <;> omega)) | (with_reducible refine bel_trans ?_ (by with_reducible assumption)))))⟩
          · have HN : Hid ((if cp = 1 then off else off + 2) = off + 2) := if_neg h1
            have hc2 : (1 : Int) < (cp : Int) := by omega
            have hc3 : 1 < cp := by omega
            have hc4 : ¬ cp = 1 := h1
            go_wp2_with fail
            go_meet
            exact ⟨_, _, rfl, by have h := HT.out.below (bel_alloc (Below.refl _ _) (.cells #[.int .i64 x, .int .i64 y] 55)); rw [HN.out] at h; exact h, Blk.new _ _ _, (by (repeat (first | with_reducible exact Below.refl _ _ | with_reducible assumption | with_reducible apply bel_alloc | with_reducible apply bel_drew | with_reducible apply bel_drewN | ((with_reducible refine bel_set ?_ ?_); rotate_left; (simp <;> omega)) | (with_reducible refine bel_trans ?_ (by with_reducible assumption)))))⟩
        case rest =>
          obtain ⟨off1, cp1, rfl, hT1, hkc, hbx⟩ := hcut
          have hgp : g ≠ wr.heap.size := by omega
          have hb2 := bel_trans hb hbx
          have hil0 : i < (seqF xs (4 * i)).length := by have := HM.out; omega
          have HQD : Hid (∀ d, (seqF xs (4 * i + d)).getD i p0 = ((x, y), f)) := fun d => by
            obtain ⟨t, ht⟩ := seqF_pre xs (4 * i) d
            rw [ht, List.getD_eq_getElem?_getD, List.getElem?_append_left hil0, ← List.getD_eq_getElem?_getD]
            exact HQ.out
          have HM1 : Hid (i + 1 + m' = (seqF xs (4 * i + 0)).length) := by have := HM.out; show i + 1 + m' = (seqF xs (4 * i)).length; omega
          have HM0 := Lib.hid HM.out
          have HT1 := Lib.hid hT1
          have HKC := Lib.hid hkc
          have HB2 := Lib.hid hb2
          clear hT1 hkc hbx hb2 hb HT HM c1 c2 hgw hgltq
          generalize hpc : wr.heap.size = pc at HKC hgp
          go_wp2_with fail
          go_loopw [5, 36] (fun e e36 wr2 => ∃ (d m off cp g : Nat) (hs : List H), d ≤ 4 ∧ e = .slice (some ⟨g, off, none⟩) m cp ∧ e36 = .int .i64 d ∧ i + 1 + m = (seqF xs (4 * i + d)).length ∧ NetI w.heap.size bm (seqF xs (4 * i + d)) hs g off m cp ((cs (seqF xs (4 * i + d))).drop (i + 1)) wr2 ∧ Blk wr2 pc 55 #[.int .i64 x, .int .i64 y] ∧ g ≠ pc ∧ Below w.heap.size w wr2) (fun _ e36 _ => 4 - (intOf e36).toNat)
          case atStart => exact ⟨0, m', off1, cp1, g, hs, by omega, rfl, rfl, HM1.out, HT1.out, HKC.out, hgp, HB2.out⟩
          case round =>
            clear HM1 HT1 HKC HB2 hgp hcp hcp1 hm8 hle hlt hlt2 hpc
            obtain ⟨d, m, off, cp, g, hs, hd4, rfl, rfl, hm, hT, hkc, hgp, hb⟩ := hrel
            by_cases hd : d < 4
            · have hsx : seqF xs (4 * i + d + 1) = stepF xs (seqF xs (4 * i + d)) i d := by
                show stepF xs (seqF xs (4 * i + d)) ((4 * i + d) / 4) ((4 * i + d) % 4) = _
                rw [show (4 * i + d) / 4 = i by omega, show (4 * i + d) % 4 = d by omega]
              have hgd := HG.out (4 * i + d)
              have hle := HGL.out (4 * i + d + 1)
              have hqd := HQD.out d
              rw [hsx] at hle
              generalize seqF xs (4 * i + d) = L at hsx hm hT hgd hle hqd
              obtain ⟨⟨mx, my⟩, hmxy⟩ : ∃ p, mvF (x, y) d = p := ⟨_, rfl⟩
              have HQ2 := Lib.hid hqd
              have HX := Lib.hid hmxy
              have HM := Lib.hid hm
              have HT := Lib.hid hT
              have HSX := Lib.hid hsx
              have HGD := Lib.hid hgd
              have b1 := hkc.cell 0
              have b2 := hkc.cell 1
              simp only [List.getElem?_toArray, List.getElem?_cons_zero, List.getElem?_cons_succ] at b1 b2
              have hpl := hkc.lt
              clear hqd hmxy hm hT hsx hgd
              go_upto_region 11 with fail
              go_cut [8] (fun p wx => ∃ pb, p = .pointer (some ⟨pb, 0, none⟩) ∧ Blk wx pb 55 #[.int .i64 mx, .int .i64 my] ∧ wr.heap.size ≤ pb ∧ Below wr.heap.size wr wx)
              case first =>
                rcases (by omega : d = 0 ∨ d = 1 ∨ d = 2 ∨ d = 3) with hd0 | hd0 | hd0 | hd0
                all_goals
                  subst hd0
                  (refine wp_region_tailN (C := ExC wr) 7 (by kernel_rfl) (by kernel_rfl) (ExC.drawn _) (fun _ _ h k => ExC.ext h k) ?_; simp only [List.take_succ_cons, List.take_zero, List.drop_succ_cons, List.drop_zero]; (repeat (first | (refine headSkip (by rfl) rfl ?_; simp only [List.setIfInBounds_toArray, List.set_cons_zero, List.set_cons_succ]) | (refine headV (v := ?_) (by rfl) rfl (fun w' hcw => ?_) ?_; rotate_left; ((try dsimp only at hcw); have hbc := hcw.cells; go_simp; first | done | with_reducible rfl | (exact callsX (v := .tuple #[.agg #[.int .i64 mx, .int .i64 my], .bool true]) (stepDir_i x y mx my _ (by omega) HX.out ⟨sx1, sx2⟩ ⟨sy1, sy2⟩ _))); simp only [List.setIfInBounds_toArray, List.set_cons_zero, List.set_cons_succ]))); unfold wpHead)
                  (refine tailK (by rfl) (fun w3 hc3 he3 K hK => ?_); go_simp; refine hK _ _ (hc3.ext (bel_alloc (Below.refl _ _) _)) ?_; clear hK K)
                  have k3 := Blk.new w3 55 #[.int .i64 0, .int .i64 0]
                  have hz3 := he3.size
                  refine tailK (by rfl) (fun w4 hc4 he4 K hK => ?_)
                  have k4 := k3.below he4
                  have q1 : w4.cell? ⟨w3.heap.size, 0, none⟩ = some (.int .i64 0) := by simpa using k4.cell 0
                  have q2 : w4.cell? ⟨w3.heap.size, 1, none⟩ = some (.int .i64 0) := by simpa using k4.cell 1
                  have f1 := k4.frozen 0
                  have f2 := k4.frozen 1
                  go_simp
                  refine hK _ _ (bel_set (bel_set hc4 (by simp; omega)) (by simp; omega)) ?_
                  clear hK K
                  (refine tailK (by rfl) (fun w5 hc5 he5 K hK => ?_); go_simp; refine hK _ _ (hc5) ?_; clear hK K)
                  (refine fun w6 hc6 he6 => NoPanic.normal ?_)
                  go_wp2_with fail
                  go_meet
                  exact ⟨_, rfl, (blk_two_i k4 he5).below he6, hz3, hc6⟩
              case rest =>
                obtain ⟨pb, rfl, hkb, hpb, hbx⟩ := hcut
                have x1 := hkb.cell 0
                have x2 := hkb.cell 1
                simp only [List.getElem?_toArray, List.getElem?_cons_zero, List.getElem?_cons_succ] at x1 x2
                have hxl := hkb.lt
                have HT2 := Lib.hid (HT.out.below hbx)
                have HKC := Lib.hid (hkc.below hbx)
                have hkb2 := hkb
                have hrw := hr.below (bel_trans hb hbx)
                have hb2 := bel_trans hb hbx
                have y1 := keep_below hbx b1
                have y2 := keep_below hbx b2
                have hlen2 := HT2.out.len
                have hil : i < L.length := by have := HM.out; omega
                have HLK := Lib.hid (run_lookC HT2.out.map Try.underlying56 (z := .slice none 0 0) (by kernel_rfl) (mx, my) true)
                have HIS := Lib.hid (ents_isSome (hs := hs) hlen2 HGD.out.nd (mx, my))
                have HND : Hid (newD xs L (mx, my) = (hasC xs mx my && !hasC (cs L) mx my)) := rfl
                have HOLD : Hid (newD xs L (mx, my) = false → seqF xs (4 * i + (d + 1)) = L) := fun h => by
                  show seqF xs (4 * i + d + 1) = L
                  rw [HSX.out]; unfold stepF; rw [HQ2.out]; simp only [HX.out, h]; simp
                clear HT hkc hbx b1 b2 hpl hkb hlen2
                cases h2 : hasC (cs L) mx my with
                | true =>
                  have HN := Lib.hid (HOLD.out (by rw [HND.out, h2]; simp))
                  have his := HIS.out
                  simp only at his
                  rw [h2] at his
                  obtain ⟨v, hv⟩ := Option.isSome_iff_exists.1 his
                  have hlk := HLK.out
                  rw [hv] at hlk
                  simp only [if_true, Option.getD_some, Option.isSome_some, cellV] at hlk
                  clear his hv h2 HOLD HND HIS HLK
                  go_wp2_with fail
                  clear hlk
                  exact ⟨⟨d + 1, m, off, cp, g, hs, by omega, rfl, by go_num, by rw [HN.out]; exact HM.out, by rw [HN.out]; exact HT2.out, HKC.out, hgp, (by (repeat (first | with_reducible exact Below.refl _ _ | with_reducible assumption | with_reducible apply bel_alloc | with_reducible apply bel_drew | with_reducible apply bel_drewN | ((with_reducible refine bel_set ?_ ?_); rotate_left; (simp <;> omega)) | (with_reducible refine bel_trans ?_ (by with_reducible assumption)))))⟩, by simp [intOf]; omega⟩
                | false =>
                  have his := HIS.out
                  simp only at his
                  rw [h2] at his
                  have hnone : lookC (ents (cs L) hs) (mx, my) = none := by
                    cases hq : lookC (ents (cs L) hs) (mx, my) with
                    | none => rfl
                    | some v => rw [hq] at his; cases his
                  have hlk := HLK.out
                  rw [hnone] at hlk
                  simp only [if_true, Option.getD_none, Option.isSome_none, cellV] at hlk
                  have HNO := Lib.hid hnone
                  clear his hnone HIS HLK
                  cases h1 : hasC xs mx my with
                  | false =>
                    have HN := Lib.hid (HOLD.out (by rw [HND.out, h1]; rfl))
                    have H1 := Lib.hid h1
                    clear h1 h2 HOLD HND
                    go_wp2_with fail
                    refine (HasCell_i _ _ _ xs mx my _ hrw HL.out (by omega)).mono ?_
                    rw [H1.out]
                    rintro e w2 ⟨rfl, hb3⟩
                    clear hlk
                    go_wp2_with fail
                    exact ⟨⟨d + 1, m, off, cp, g, hs, by omega, rfl, by go_num, by rw [HN.out]; exact HM.out, by rw [HN.out]; exact HT2.out.below hb3, HKC.out.below hb3, hgp, (by (repeat (first | with_reducible exact Below.refl _ _ | with_reducible assumption | with_reducible apply bel_alloc | with_reducible apply bel_drew | with_reducible apply bel_drewN | ((with_reducible refine bel_set ?_ ?_); rotate_left; (simp <;> omega)) | (with_reducible refine bel_trans ?_ (by with_reducible assumption)))))⟩, by simp [intOf]; omega⟩
                  | true =>
                    have HN : Hid (seqF xs (4 * i + (d + 1)) = L ++ [((mx, my), rollL f d)]) := by
                      show seqF xs (4 * i + d + 1) = _
                      rw [HSX.out]; unfold stepF; rw [HQ2.out, if_pos ⟨hil, by simp only [HX.out, HND.out, h1, h2]; rfl⟩]; simp only [HX.out]
                    have hle2 : m + 1 ≤ n := by
                      have h := HGL.out (4 * i + (d + 1))
                      rw [HN.out, List.length_append, List.length_singleton] at h
                      have := HM.out; omega
                    have H1 := Lib.hid h1
                    clear h1 h2 HOLD HND
                    go_wp2_with fail
                    refine (HasCell_i _ _ _ xs mx my _ hrw HL.out (by omega)).mono ?_
                    rw [H1.out]
                    rintro e w2 ⟨rfl, hb3⟩
                    clear hlk
                    have u1 := keep_below hb3 x1
                    have u2 := keep_below hb3 x2
                    have u3 := keep_below hb3 y1
                    have u4 := keep_below hb3 y2
                    have HT3 := Lib.hid (HT2.out.below hb3)
                    have HKC3 := Lib.hid (HKC.out.below hb3)
                    have hb4 := bel_trans hb2 hb3
                    have hz3 := hb3.size
                    clear HT2 HKC x1 x2 y1 y2
                    go_wp2_with fail
                    have hT3 := HT3.out
                    have hne0 := map_ne hT3.map hT3.q
                    have hne1 : pc ≠ bm := blk_map hT3.map HKC3.out
                    have hne2 : pb ≠ bm := blk_map hT3.map (hkb2.below hb3)
                    have hpc2 := HKC3.out.lt
                    have hpb2 : pb < w2.heap.size := by omega
                    have hglt := (ownQ_lt hT3.q).2
                    have hblt := hT3.map.lt
                    have hiL2 : i < (cs L).length := by rw [cs_len]; exact hil
                    have hhl : i < hs.length := by rw [hT3.len]; exact hiL2
                    have hci : (cs L)[i] = (x, y) := by
                      have := HQ2.out
                      rw [List.getD_eq_getElem?_getD, List.getElem?_eq_getElem hil] at this
                      simp only [Option.getD_some] at this
                      simp [cs, this]
                    have hfe : (L.map (·.2))[i]'(by simpa using hil) = f := by
                      have := HQ2.out
                      rw [List.getD_eq_getElem?_getD, List.getElem?_eq_getElem hil] at this
                      simp only [Option.getD_some] at this
                      simp [this]
                    have hf6 : f.length = 6 := by
                      have := HGD.out.six _ (getD_memF hil)
                      rw [HQ2.out] at this
                      exact this
                    have hlk2 := ents_some HGD.out.nd hT3.len hiL2
                    have hrow := hT3.rows.at_ i hhl (by simpa using hil)
                    rw [hfe] at hrow
                    rw [hci] at hlk2
                    obtain ⟨⟨D0, n0, c0⟩, hh⟩ : ∃ h, hs[i] = h := ⟨_, rfl⟩
                    rw [hh] at hrow hlk2
                    obtain ⟨hr6, _, hrd⟩ := hrow
                    simp only [hd] at hr6 hrd hlk2
                    rw [hf6] at hr6
                    subst hr6
                    have HF6 := Lib.hid hf6
                    have HLK2 := Lib.hid hlk2
                    clear hT3 hci hfe hf6 hlk2 hh
                    (refine wp_region_tailN (C := GrM w2 bm (x, y) (.slice D0 6 c0)) 6 (by kernel_rfl) (by kernel_rfl) (GrM.drawn HT3.out.map HLK2.out) (fun _ _ h k => GrM.ext h k) ?_; simp only [List.take_succ_cons, List.take_zero, List.drop_succ_cons, List.drop_zero]; (repeat (first | (refine headSkip (by rfl) rfl ?_; simp only [List.setIfInBounds_toArray, List.set_cons_zero, List.set_cons_succ]) | (refine headV (v := ?_) (by rfl) rfl (fun w' hcw => ?_) ?_; rotate_left; ((try dsimp only at hcw); have hbc := hcw.cells; go_simp; first | done | with_reducible rfl | (have hl := hcw.look; go_simp; first | done | with_reducible rfl)); simp only [List.setIfInBounds_toArray, List.set_cons_zero, List.set_cons_succ]))); unfold wpHead)
                    refine tailK (by rfl) (fun w3 hc3 he3 K hK => ?_)
                    go_simp
                    refine (roll_i D0 c0 f d _ (hrd.below he3) HF6.out (by omega)).mono ?_
                    rintro e w4 ⟨D, mf, cf, rfl, hof, hb5⟩
                    have hm6 : 6 = mf := by have := own_len hof; rw [vI_length, rollL_len] at this; omega
                    subst hm6
                    refine hK _ _ (hc3.ext hb5) ?_
                    clear hK K
                    refine tailK (by rfl) (fun w5 hc5 he5 K hK => ?_)
                    have hM5 := ((HT3.out.map.below he3).below hb5).below he5
                    refine wpUpdC (T := 56) _ _ _ (Or.inl rfl) hM5 Try.underlying56 (mx, my) (.slice D 6 cf) rfl rfl rfl HNO.out ?_
                    intro w6 hM6 hg6 hz6
                    refine hK _ _ (GrM.put hc5 hg6 hM6 HLK2.out) ?_
                    clear hK K
                    simp only [Act.put]
                    (refine fun w7 hc7 he7 => NoPanic.normal ?_)
                    have hz3 := he3.size
                    have rD : Rd w7 D (vI (rollL f d)) := (((Rd.of_own hof).below he5).grown hg6 (fun k h e => by have := (own_lt hof k h).1; injection e with e; omega)).below he7
                    have hDb : ∀ k, ob D = some k → w2.heap.size ≤ k := fun k h => by have := (own_lt hof k h).1; omega
                    have hM7 := hM6.below he7
                    have hq7 := ownQ_kept HT3.out.q hc7.1 (fun e => hne0 (by injection e with e; exact e.symm))
                    have v1 := keep_grown hc7.1 u1 (fun e => hne2 (by injection e))
                    have v2 := keep_grown hc7.1 u2 (fun e => hne2 (by injection e))
                    have k7 := HKC3.out.grown hc7.1 (fun e => hne1 (by injection e))
                    have hb07 : Below w.heap.size w w7 := bel_grown hb4 hc7.1 (fun k e => by injection e with e; have := HT3.out.bas; omega)
                    have hz07 := hb07.size
                    have HG7 := Lib.hid hc7.1
                    have HM7 := Lib.hid hM7
                    have HQ7 := Lib.hid hq7
                    have HK7 := Lib.hid k7
                    have hpc7 := k7.lt
                    clear hof hg6 hM6 hM5 hM7 hc3 hc5 hc7 hq7 k7 u1 u2 u3 u4 hz6
                    have hm8 : m ≤ 8 := by omega
                    go_wp2_with (at_builtin; go_must (refine app_QC _ rfl _ _ rfl w.heap.size g off m cp _ rfl (ownQ_keep HQ7.out (bel_alloc (Below.refl _ _) _)) w7.heap.size _ _ [(mx, my)] rfl (newC_cells _ _ _ _) rfl (by omega) (by simp; omega) ?_); intro g' off' c' w8 hq8 hg8 hg'; have HQ8 := Lib.hid hq8; have HG8 := Lib.hid hg8; have HGG := Lib.hid hg'; clear hq8 hg8 hg')
                    have hT8 := NetI.push HT3.out HG7.out HM7.out rD (rollL_len f d) hDb HQ8.out HG8.out HGG.out
                    have k8 : Blk w8 pc 55 #[.int .i64 x, .int .i64 y] := (HK7.out.alloc _).grown HG8.out (fun e => hgp (by injection e with e; exact e.symm))
                    have hb08 : Below w.heap.size w w8 := bel_grown (row := some g) (bel_alloc hb07 _) HG8.out (fun k e => by injection e with e; have := (ownQ_lt HT3.out.q).1; omega)
                    exact ⟨⟨d + 1, m + 1, off', c', g', _, by omega, rfl, by go_num, by rw [HN.out, List.length_append, List.length_singleton]; have := HM.out; omega, by
                      rw [HN.out]
                      have e : (cs (L ++ [((mx, my), rollL f d)])).drop (i + 1) = (cs L).drop (i + 1) ++ [(mx, my)] := by rw [cs_app, List.drop_append_of_le_length (by omega)]
                      rw [e]; exact hT8, k8, by
                      rcases HGG.out with e | e
                      · rw [e]; exact hgp
                      · rw [e]; simp; omega, hb08⟩, by simp [intOf]; omega⟩
            · have hd4' : d = 4 := by omega
              subst hd4'
              have HM := Lib.hid hm
              have HT := Lib.hid hT
              have HSZ2 : Hid (mapSz wr bm = (seqF xs (4 * (i + 1))).length) := by show mapSz wr bm = _; rw [hT.map.sz]; have := hT.len; simp [ents, cs_len, Nat.mul_add] at this ⊢; omega
              have hle := HGL.out (4 * (i + 1))
              have hle0 := HGL.out (4 * i)
              clear hm hT
              go_wp2_with fail
              refine ⟨⟨i + 1, m, off, cp, g, hs, rfl, HM.out, HT.out, hb⟩, ?_⟩
              rw [HSZ.out, HSZ2.out]
              have h1 := HM.out
              have h2 := HM0.out
              have e : seqF xs (4 * i + 4) = seqF xs (4 * (i + 1)) := rfl
              rw [e] at h1
              simp only [lenV]
              omega
      · have hm0 : m = 0 := by omega
        have hfin := HEND.out i (by omega)
        have hgd := HG.out (4 * i)
        rw [hfin] at hm hT hgd
        have HALL2 := HALL.out
        generalize facesL xs = L at hm hT HV hfin hgd HALL2
        have hlt2 : ¬ (0 : Int) < (m : Int) := by omega
        have hM := hT.map
        have hR := hT.rows
        have hhl := hT.len
        have HGD := Lib.hid hgd
        have HA := Lib.hid HALL2
        have HHL := Lib.hid hhl
        have HM := Lib.hid hM
        have HR := Lib.hid hR
        clear hm hT hgd hfin hm0 HALL2 HALL hM hR hhl
        go_wp2_with fail
        go_loopw [12, 76] (fun e e76 wr => ∃ (k cp : Nat) (B : Option Addr), k ≤ n ∧ e = .slice B k cp ∧ e76 = .int .i64 k ∧ wr.ownsRow w.heap.size 3 1 (.slice B k cp) k (vI ((xs.take k).map (face0 L))) ∧ MapC wr bm (ents (cs L) hs) ∧ RowsH wr hs (L.map (·.2)) ∧ (∀ g, ob B = some g → away hs g) ∧ Below w.heap.size w wr) (fun _ e76 _ => n - (intOf e76).toNat)
        case atStart => exact ⟨0, 0, none, by omega, rfl, rfl, own_nil _ _ _ _, HM.out, HR.out, (fun g h => by cases h), hb⟩
        case round =>
          clear HM HR hb
          obtain ⟨k, cp, B, hk, rfl, rfl, hown, hM, hR, haw, hb⟩ := hrel
          by_cases hkn : k < n
          · have hkx : k < xs.length := by rw [HL.out]; exact hkn
            have hrw := hr.below hb
            obtain ⟨ga', offa', hga', hgx, c1, c2⟩ := RdC.at_ hrw hkx
            simp only [Option.some.injEq, Addr.mk.injEq, and_true] at hga'
            obtain ⟨rfl, rfl⟩ := hga'
            obtain ⟨f, hlf, hfm⟩ := lookF_mem (HA.out _ (List.getElem_mem hkx))
            have hf6 := HGD.out.six _ hfm
            obtain ⟨j, hjL, hLj⟩ := List.mem_iff_getElem.1 hfm
            have hjC : j < (cs L).length := by rw [cs_len]; exact hjL
            have hlk := ents_some HGD.out.nd HHL.out hjC
            have hcj : (cs L)[j] = xs[k] := by simp [cs, hLj]
            rw [hcj] at hlk
            have hhl : j < hs.length := by rw [HHL.out]; exact hjC
            have hrow := hR.at_ j hhl (by simpa using hjL)
            have hfe : (L.map (·.2))[j]'(by simpa using hjL) = f := by simp [hLj]
            rw [hfe] at hrow
            obtain ⟨⟨D0, n0, c0⟩, hh⟩ : ∃ h, hs[j] = h := ⟨_, rfl⟩
            rw [hh] at hrow hlk
            obtain ⟨hr6, hfp, hrd⟩ := hrow
            simp only [hd] at hr6 hrd hlk
            rw [hf6] at hr6
            obtain ⟨gD, offD, rfl, hgD, r1⟩ := RdI.at_ hrd hfp
            rw [Nat.add_zero] at r1
            have hmp : (xs.take (k + 1)).map (face0 L) = (xs.take k).map (face0 L) ++ [f[0]] := by
              rw [List.take_succ_eq_append_getElem hkx, List.map_append]
              congr 1
              show [face0 L xs[k]] = [f[0]]
              unfold face0
              rw [hlf]
              simp only [Option.getD_some, List.getD_eq_getElem?_getD, List.getElem?_eq_getElem hfp]
            obtain ⟨⟨x, y⟩, hx⟩ : ∃ p, xs[k] = p := ⟨_, rfl⟩
            rw [hx] at c1 c2 hlk
            have hrun := run_lookC (hM.alloc (.cells #[.int .i64 x, .int .i64 y] 55)) Try.underlying56 (z := .slice none 0 0) (by kernel_rfl) (x, y) false
            rw [hlk] at hrun
            simp only [Bool.false_eq_true, if_false, Option.getD_some, cellV] at hrun
            subst hr6
            have HMP := Lib.hid hmp
            have HO := Lib.hid hown
            have HM := Lib.hid hM
            have HR := Lib.hid hR
            have HAW := Lib.hid haw
            have hbs := hb.size
            clear hmp hown hM hR haw hlk hlf hfm hf6 hcj hh hfe hx hLj hrd
            generalize f[0] = v at HMP r1
            have hk8 : k ≤ 8 := by omega
            have hrn : Rd ((wr.alloc (.cells #[.int .i64 x, .int .i64 y] 55)).alloc (.cells #[.int .i64 v] 3)) (some ⟨wr.heap.size + 1, 0, none⟩) (vI [v]) := by
              have h := rd_newI (wr.alloc (.cells #[.int .i64 x, .int .i64 y] 55)) 3 v
              rw [show (wr.alloc (.cells #[.int .i64 x, .int .i64 y] 55)).heap.size = wr.heap.size + 1 from by simp] at h
              exact h
            go_wp2_with (at_builtin; go_must (refine app_I _ rfl _ _ rfl w.heap.size _ _ _ _ rfl ((HO.out.alloc _).alloc _) _ _ _ [v] rfl hrn rfl (by omega) (by simp; omega) ?_); intro B2 cp2 w8 ho8 hg8 hat8; have HO8 := Lib.hid ho8; have HG8 := Lib.hid hg8; have HAT := Lib.hid hat8; clear ho8 hg8 hat8)
            have hbb : Below wr.heap.size wr ((wr.alloc (.cells #[.int .i64 x, .int .i64 y] 55)).alloc (.cells #[.int .i64 v] 3)) := bel_alloc (bel_alloc (Below.refl _ _) _) _
            have hMb := HM.out.below hbb
            have hM8 : MapC w8 bm (ents (cs L) hs) := hMb.grown HG8.out (fun e => by
              rcases HO.out.2 with ⟨h1, _⟩ | ⟨g, cap, cur, hv, _, hg, _⟩
              · injection h1 with h1; rw [h1] at e; cases e
              · injection hv with hv
                rw [hv] at e
                simp only [ob, Option.map_some, Option.some.injEq] at e
                subst e
                obtain ⟨arr, cl, hm1, _⟩ := HM.out
                rw [hm1] at hg
                cases hg)
            have hR8 : RowsH w8 hs (L.map (·.2)) := (HR.out.below hbb).grown HG8.out (fun g e => HAW.out g e)
            have hA8 : ∀ g, ob B2 = some g → away hs g := fun g e => by
              rcases HAT.out with h | h
              · exact HAW.out g (h ▸ e)
              · rw [h] at e; injection e with e; subst e; exact (HR.out.below hbb).away_new (Nat.le_refl _)
            exact ⟨⟨k + 1, cp2, B2, by omega, rfl, by go_num, by rw [HMP.out]; exact HO8.out, hM8, hR8, hA8, bel_app (bel_trans hb hbb) HG8.out (fun g' hg1 => ((own_lt HO.out) g' hg1).1)⟩, by simp [intOf]; omega⟩
          · have hkn2 : k = n := by omega
            subst hkn2
            rw [List.take_of_length_le (by rw [HL.out]; omega), ← HV.out] at hown
            have HO := Lib.hid hown
            clear hown
            go_wp2
            go_ret2
            exact ⟨_, _, _, rfl, HO.out, hb⟩
end Go.Proofs.Ytagkopemcabkpaa

/- The faces of a cube that rolls over a shape: the reference. -/
namespace Go.Proofs.Ytagkopemcabkpaa
open Go.RowKit
set_option linter.unusedVariables false
attribute [local go_sem ↓] Go.wp_at_zero Go.wp_at_succ

theorem own_farset {w : World} {base e size n c : Nat} {A : Option Addr} {vs : List Value} (h : w.ownsRow base e size (.slice A n c) n vs) {g0 : Nat} (hA : ∀ g, ob A = some g → g ≠ g0) (k : Nat) (v : Value) : (w.setCell ⟨g0, k, none⟩ v).ownsRow base e size (.slice A n c) n vs :=
  own_set h hA v
theorem RowsH.far {w : World} {hs : List H} {F : List (List Int)} (h : RowsH w hs F) {g0 : Nat} (ha : away hs g0) (k : Nat) (v : Value) : RowsH (w.setCell ⟨g0, k, none⟩ v) hs F :=
  ⟨h.len, fun i a b => ⟨(h.at_ i a b).1, (h.at_ i a b).2.1, (h.at_ i a b).2.2.far (fun g hg e => ha _ (List.getElem_mem a) (by rw [hg, e])) v⟩⟩
theorem blk_two {w w' : World} {g : Nat} {t : TypeId} {x y u v : Value} (h : Blk w g t #[x, y]) (hb : Ext ((w.setCell ⟨g, 0, none⟩ u).setCell ⟨g, 1, none⟩ v) w') : Blk w' g t #[u, v] := by
  have h2 := (h.set_ 0 u).set_ 1 v
  have h3 : Blk ((w.setCell ⟨g, 0, none⟩ u).setCell ⟨g, 1, none⟩ v) g t #[u, v] := by simpa using h2
  exact h3.below hb
structure Two0 (base g0 : Nat) (t1 s1 : Nat) (vs : List Value) (A : Option Addr) (n c : Nat) (B : Option Addr) (c2 : Nat) (hs : List H) (F : List (List Int)) (xs : List Int) (w : World) : Prop where
  two : Two base g0 t1 s1 vs A n c B c2 hs F (vI xs).toArray w
  aw : away hs g0
theorem Two0.below {base g0 t1 s1 : Nat} {vs : List Value} {A : Option Addr} {n c : Nat} {B : Option Addr} {c2 : Nat} {hs : List H} {F : List (List Int)} {xs : List Int} {w w' : World}
    (h : Two0 base g0 t1 s1 vs A n c B c2 hs F xs w) (hb : Below w.heap.size w w') : Two0 base g0 t1 s1 vs A n c B c2 hs F xs w' := ⟨h.two.below hb, h.aw⟩
theorem Two0.set_ {base g0 t1 s1 : Nat} {vs : List Value} {A : Option Addr} {n c : Nat} {B : Option Addr} {c2 : Nat} {hs : List H} {F : List (List Int)} {xs : List Int} {w : World}
    (h : Two0 base g0 t1 s1 vs A n c B c2 hs F xs w) (k : Nat) (v : Int) : Two0 base g0 t1 s1 vs A n c B c2 hs F (xs.set k v) (w.setCell ⟨g0, k, none⟩ (.int .i64 v)) := by
  have hA : ∀ g, ob A = some g → g ≠ g0 := fun g e => (h.two.sepA g e).2.2
  have hB : ∀ g, ob B = some g → g ≠ g0 := fun g e => (h.two.sepB g e).2
  exact ⟨⟨own_farset h.two.own1 hA k _, own_farset h.two.own2 hB k _, h.two.rows.far h.aw k _, blkI_set h.two.beside k v, h.two.sepA, h.two.sepB⟩, h.aw⟩
theorem Two0.push {base g0 t1 s1 : Nat} {vs vs' : List Value} {A A' : Option Addr} {n c c' : Nat} {B B' : Option Addr} {c2 c2' : Nat} {hs : List H} {F : List (List Int)} {xs : List Int} {w1 w2 w2' w3 : World}
    {D : Option Addr} {cf : Nat} {f : List Int} {o1 : Obj}
    (h : Two0 base g0 t1 s1 vs A n c B c2 hs F xs w1) (hf : Rd w1 D (vI f)) {nf : Nat} (hn : nf = f.length) (hp : 0 < f.length) (hfd : ∀ g, ob D = some g → ob A ≠ some g ∧ ob B ≠ some g ∧ g ≠ g0)
    (ho1 : w2.ownsRow base t1 s1 (.slice A' (n + 1) c') (n + 1) vs') (hg1 : (w1.alloc o1).grownBy w2 (ob A)) (ha1 : ob A' = ob A ∨ ob A' = some (w1.alloc o1).heap.size)
    (hm : Below w2.heap.size w2 w2')
    (ho2 : w3.ownsRow base 24 1 (.slice B' (n + 1) c2') (n + 1) (vS (hs ++ [(D, nf, cf)]))) (hg2 : w2'.grownBy w3 (ob B)) (ha2 : ob B' = ob B ∨ ob B' = some w2'.heap.size) :
    Two0 base g0 t1 s1 vs' A' (n + 1) c' B' c2' (hs ++ [(D, nf, cf)]) (F ++ [f]) xs w3 :=
  ⟨h.two.push hf hn hp (fun g e => ⟨(hfd g e).1, (hfd g e).2.1⟩) ho1 hg1 ha1 hm ho2 hg2 ha2, away_push h.aw (fun e => (hfd g0 e).2.2 rfl)⟩
theorem Two0.init (w : World) (base : Nat) (hb : base ≤ w.heap.size) (zs : List Int) (x y : Int) :
    Two0 base w.heap.size 55 2 (vC [(x, y)]) (some ⟨w.heap.size + 1, 0, none⟩) 1 1 (some ⟨w.heap.size + 1 + 1 + 1, 0, none⟩) 1 [(some ⟨w.heap.size + 1 + 1, 0, none⟩, 6, 6)] [id6] zs
      ((((w.alloc (.cells (vI zs).toArray 3)).alloc (.cells #[.int .i64 x, .int .i64 y] 55)).alloc (.cells #[.int .i64 0, .int .i64 1, .int .i64 2, .int .i64 3, .int .i64 4, .int .i64 5] 3)).alloc
        (.cells #[.slice (some ⟨w.heap.size + 1 + 1, 0, none⟩) 6 6] 24)) := by
  generalize hW1 : w.alloc (.cells (vI zs).toArray 3) = W1
  have e1 : W1.heap.size = w.heap.size + 1 := by rw [← hW1]; simp
  have k1 : Blk W1 w.heap.size 3 (vI zs).toArray := by rw [← hW1]; exact Blk.new _ _ _
  have oC := own_newC W1 55 x y (base := base) (by omega)
  rw [e1] at oC
  have k2 := k1.alloc (.cells #[.int .i64 x, .int .i64 y] 55)
  generalize hW2 : W1.alloc (.cells #[.int .i64 x, .int .i64 y] 55) = W2 at oC k2
  have e2 : W2.heap.size = w.heap.size + 1 + 1 := by rw [← hW2]; simp [e1]
  have r3 : Rd (W2.alloc (.cells #[.int .i64 0, .int .i64 1, .int .i64 2, .int .i64 3, .int .i64 4, .int .i64 5] 3)) (some ⟨w.heap.size + 1 + 1, 0, none⟩) (vI id6) := by
    rw [← e2]; exact rd_new W2 3 #[.int .i64 0, .int .i64 1, .int .i64 2, .int .i64 3, .int .i64 4, .int .i64 5]
  have oC3 := oC.alloc (.cells #[.int .i64 0, .int .i64 1, .int .i64 2, .int .i64 3, .int .i64 4, .int .i64 5] 3)
  have k3 := k2.alloc (.cells #[.int .i64 0, .int .i64 1, .int .i64 2, .int .i64 3, .int .i64 4, .int .i64 5] 3)
  generalize hW3 : W2.alloc (.cells #[.int .i64 0, .int .i64 1, .int .i64 2, .int .i64 3, .int .i64 4, .int .i64 5] 3) = W3 at r3 oC3 k3
  have e3 : W3.heap.size = w.heap.size + 1 + 1 + 1 := by rw [← hW3]; simp [e2]
  have oH := own_new W3 24 1 1 #[.slice (some ⟨w.heap.size + 1 + 1, 0, none⟩) 6 6] rfl (by simp [maxLen]) (base := base) (by omega)
  rw [e3] at oH
  refine ⟨⟨oC3.alloc _, oH, ?_, k3.alloc _, fun g hg => ?_, fun g hg => ?_⟩, ?_⟩
  · refine ⟨rfl, fun k a b => ?_⟩
    have e : k = 0 := by have : k < 1 := a; omega
    subst e
    exact ⟨rfl, by simp [id6], r3.alloc _⟩
  · simp only [ob, Option.map_some, Option.some.injEq] at hg
    subst hg
    refine ⟨fun e => (by simp only [ob, Option.map_some, Option.some.injEq] at e; omega), fun h hh => ?_, by omega⟩
    simp only [List.mem_singleton] at hh
    rw [hh]
    simp only [ob, Option.map_some, ne_eq, Option.some.injEq]
    omega
  · simp only [ob, Option.map_some, Option.some.injEq] at hg
    subst hg
    refine ⟨fun h hh => ?_, by omega⟩
    simp only [List.mem_singleton] at hh
    rw [hh]
    simp only [ob, Option.map_some, ne_eq, Option.some.injEq]
    omega
  · intro h hh
    simp only [List.mem_singleton] at hh
    rw [hh]
    simp only [ob, Option.map_some, ne_eq, Option.some.injEq]
    omega
theorem mid_cell {w : World} {g : Nat} {t : TypeId} {pre post : List Int} {a : Int} (h : Blk w g t (vI (pre ++ a :: post)).toArray) {k : Nat} (hk : pre.length = k) : w.cell? ⟨g, k, none⟩ = some (.int .i64 a) := by
  subst hk
  rw [h.cell]
  simp [vI]
theorem mid_set {pre post : List Int} {a : Int} {k : Nat} (hk : pre.length = k) (v : Int) : (pre ++ a :: post).set k v = pre ++ v :: post := by
  subst hk
  simp
theorem faces_no {xs : List C} (h : isConn xs = false) : faces xs = [] := by unfold faces; rw [h]; rfl
theorem faces_yes {xs : List C} (h : isConn xs = true) : faces xs = xs.map (face0 (facesL xs)) := by unfold faces; rw [h]; rfl
set_option maxRecDepth 100000 in
set_option maxHeartbeats 3200000 in
theorem FacesOf_s (A : Option Addr) (n c : Nat) (xs : List C) (w : World) (hr : Rd w A (vC xs)) (hl : xs.length = n) (hn : n ≤ 1099511627776) :
    Calls Try.prog 13 #[.slice A n c] w (RetS2 w 3 1 (vI (faces xs)) (.bool (isConn xs))) := by
  have HL := Lib.hid hl
  cases hc : isConn xs with
  | false =>
    have HV := Lib.hid (faces_no hc)
    have HC := Lib.hid hc
    clear hc hl
    go_enter Try.func13, Try.ntmps13
    go_wp2_with (go_at_call 29; refine (IsConnectedShape_s _ _ _ xs _ hr HL.out (by omega)).mono ?_; rw [HC.out]; rintro e w1 ⟨rfl, hb1⟩)
    go_ret2
    exact ⟨_, 0, 0, rfl, by rw [HV.out]; exact own_new _ _ 1 0 #[] rfl (by simp [maxLen]) (by have := hb1.size; omega), (by (repeat (first | with_reducible exact Below.refl _ _ | with_reducible assumption | with_reducible apply bel_alloc | with_reducible apply bel_drew | with_reducible apply bel_drewN | ((with_reducible refine bel_set ?_ ?_); rotate_left; (simp <;> omega)) | (with_reducible refine bel_trans ?_ (by with_reducible assumption)))))⟩
  | true =>
    have HV := Lib.hid (faces_yes hc)
    have hs := conn_shape hc
    have hlen := shape_len hs
    have hsm := shape_small hs
    have hn8 : n ≤ 8 := by omega
    have hn1 : 1 ≤ n := by omega
    have hnp : (0 : Int) < (n : Int) := by omega
    have h0x : 0 < xs.length := by omega
    have hs0 : xs[0] = s0 xs := by simp [s0, List.getD_eq_getElem?_getD, h0x]
    have HGD := fun k => seqF_good h0x k
    have HG := Lib.hid HGD
    have HGL : Hid (∀ k, (seqF xs k).length ≤ n) := fun k => by have := seqF_len h0x k; omega
    have HEND : Hid (∀ i, (seqF xs (4 * i)).length ≤ i → seqF xs (4 * i) = facesL xs) := fun i h => seqF_end h0x h
    have HSM := Lib.hid hsm
    have HC := Lib.hid hc
    have HS0 := Lib.hid hs0
    have hmk : ∀ wq, (Instr.makeSlice 24 (.int .i64 (n : Int)) (.int .i64 (n : Int))).run Try.prog wq = _ := fun wq => mk_I wq n (by omega)
    clear hc hs hlen hsm hl hn hs0 HGD
    go_enter Try.func13, Try.ntmps13
    go_wp2_with fail
    refine (IsConnectedShape_s _ _ _ xs _ hr HL.out (by omega)).mono ?_
    rw [HC.out]
    rintro e w1 ⟨rfl, hb1⟩
    obtain ⟨ga, offa, rfl, hga, z1, z2⟩ := RdC.at_ (hr.below hb1) h0x
    rw [HS0.out] at z1 z2
    simp only [Nat.zero_mul, Nat.add_zero] at z1 z2
    obtain ⟨⟨zx, zy⟩, hz⟩ : ∃ p, s0 xs = p := ⟨_, rfl⟩
    rw [hz] at z1 z2
    have HZ := Lib.hid hz
    have hbs := hb1.size
    clear hz
    go_wp2_with fail
    have hinit := Two0.init w1 w.heap.size hbs (zeI n) zx zy
    rw [← HZ.out] at hinit
    have HI := Lib.hid hinit
    clear hinit
    generalize hg0 : w1.heap.size = g0 at HI
    have hg0b : w.heap.size ≤ g0 := by omega
    have HG0 := Lib.hid hg0
    clear hg0
    go_loopw [5, 6, 7] (fun e5 e6 e7 wr => ∃ (i m cA cB : Nat) (A' B' : Option Addr) (hs : List H), i ≤ m ∧ m ≤ n ∧ e5 = .slice A' m cA ∧ e6 = .slice B' m cB ∧ e7 = .int .i64 i ∧ m = (seqF xs (4 * i)).length ∧ Two0 w.heap.size g0 55 2 (vC (cs (seqF xs (4 * i)))) A' m cA B' cB hs ((seqF xs (4 * i)).map (·.2)) (zeI n) wr ∧ Below w.heap.size w wr) (fun _ _ e7 _ => n - (intOf e7).toNat)
    case atStart => exact ⟨0, 1, 1, 1, _, _, _, by omega, by omega, rfl, rfl, rfl, rfl, HI.out, (by (repeat (first | with_reducible exact Below.refl _ _ | with_reducible assumption | with_reducible apply bel_alloc | with_reducible apply bel_drew | with_reducible apply bel_drewN | ((with_reducible refine bel_set ?_ ?_); rotate_left; (simp <;> omega)) | (with_reducible refine bel_trans ?_ (by with_reducible assumption)))))⟩
    case round =>
      clear HI HG0 HZ hb1 z1 z2 hga hbs hmk
      obtain ⟨i, m, cA, cB, A', B', hs, him, hmn, rfl, rfl, rfl, hm, hT, hb⟩ := hrel
      by_cases hlt : i < m
      · have hlt2 : (i : Int) < (m : Int) := by omega
        have HM := Lib.hid hm
        have HT := Lib.hid hT
        clear hm hT
        go_wp2_with fail
        go_loopw [5, 6, 8] (fun e5 e6 e8 wr => ∃ (d m cA cB : Nat) (A' B' : Option Addr) (hs : List H), d ≤ 4 ∧ i < m ∧ m ≤ n ∧ e5 = .slice A' m cA ∧ e6 = .slice B' m cB ∧ e8 = .int .i64 d ∧ m = (seqF xs (4 * i + d)).length ∧ Two0 w.heap.size g0 55 2 (vC (cs (seqF xs (4 * i + d)))) A' m cA B' cB hs ((seqF xs (4 * i + d)).map (·.2)) (zeI n) wr ∧ Below w.heap.size w wr) (fun _ _ e8 _ => 4 - (intOf e8).toNat)
        case atStart => exact ⟨0, m, cA, cB, A', B', hs, by omega, hlt, hmn, rfl, rfl, rfl, HM.out, HT.out, hb⟩
        case round =>
          clear HM HT hb hlt him hmn hlt2
          obtain ⟨d, m, cA, cB, A', B', hs, hd4, him, hmn, rfl, rfl, rfl, hm, hT, hb⟩ := hrel
          by_cases hd : d < 4
          · have hsx : seqF xs (4 * i + d + 1) = stepF xs (seqF xs (4 * i + d)) i d := by
              show stepF xs (seqF xs (4 * i + d)) ((4 * i + d) / 4) ((4 * i + d) % 4) = _
              rw [show (4 * i + d) / 4 = i by omega, show (4 * i + d) % 4 = d by omega]
            have hgd := HG.out (4 * i + d)
            have hle := HGL.out (4 * i + d + 1)
            rw [hsx] at hle
            generalize seqF xs (4 * i + d) = L at hsx hm hT hgd hle
            have hiL : i < (cs L).length := by rw [cs_len]; omega
            obtain ⟨gs, offs, hAs, hgs, c1, c2⟩ := RdC.at_ (Rd.of_own hT.two.own1) hiL
            subst hAs
            have hcx : (cs L)[i] = (L.getD i p0).1 := by rw [List.getD_eq_getElem?_getD, List.getElem?_eq_getElem (by omega)]; simp [cs]
            rw [hcx] at c1 c2
            have hsm0 := HSM.out (L.getD i p0).1 (hgd.sub _ (by rw [← hcx]; exact List.getElem_mem hiL))
            have hne := hT.two.own1
            generalize hq : L.getD i p0 = q at c1 c2 hsm0
            obtain ⟨⟨x, y⟩, f⟩ := q
            simp only at c1 c2 hsm0
            obtain ⟨⟨mx, my⟩, hmxy⟩ : ∃ p, mvF (x, y) d = p := ⟨_, rfl⟩
            have HQ := Lib.hid hq
            have HX := Lib.hid hmxy
            have HM := Lib.hid hm
            have HT := Lib.hid hT
            have HSX := Lib.hid hsx
            have HGD := Lib.hid hgd
            have hi0 : (0 : Int) ≤ (i : Int) := by omega
            have hi1 : (i : Int) < (m : Int) := by omega
            obtain ⟨⟨sx1, sx2⟩, ⟨sy1, sy2⟩⟩ := hsm0
            simp only at sx1 sx2 sy1 sy2
            clear hq hmxy hm hT hsx hgd hcx hne
            go_upto_region 12 with fail
            go_cut [9] (fun p wx => ∃ pb, p = .pointer (some ⟨pb, 0, none⟩) ∧ Blk wx pb 55 #[.int .i64 mx, .int .i64 my] ∧ wr.heap.size ≤ pb ∧ Below wr.heap.size wr wx)
            case first =>
              have v0 : IntKind.i64.wrap 0 = 0 := IntWalk.i64_in _ (by omega)
              have v1 : IntKind.i64.wrap 1 = 1 := IntWalk.i64_in _ (by omega)
              have v2 : IntKind.i64.wrap 2 = 2 := IntWalk.i64_in _ (by omega)
              have v3 : IntKind.i64.wrap (-1) = -1 := IntWalk.i64_in _ (by omega)
              have v4 : IntKind.i64.wrap (-2) = -2 := IntWalk.i64_in _ (by omega)
              have vx0 : IntKind.i64.wrap x = x := IntWalk.i64_in _ (by omega)
              have vx1 : IntKind.i64.wrap (x + 1) = x + 1 := IntWalk.i64_in _ (by omega)
              have vx2 : IntKind.i64.wrap (x + -1) = x - 1 := (IntWalk.i64_in _ (by omega)).trans (by omega)
              have vy0 : IntKind.i64.wrap y = y := IntWalk.i64_in _ (by omega)
              have vy1 : IntKind.i64.wrap (y + 1) = y + 1 := IntWalk.i64_in _ (by omega)
              have vy2 : IntKind.i64.wrap (y + -1) = y - 1 := (IntWalk.i64_in _ (by omega)).trans (by omega)
              rcases (by omega : d = 0 ∨ d = 1 ∨ d = 2 ∨ d = 3) with hd0 | hd0 | hd0 | hd0
              all_goals
                subst hd0
                have hx := HX.out
                simp only [mvF, Prod.mk.injEq] at hx
                obtain ⟨rfl, rfl⟩ := hx
                (refine wp_region_tailN (C := ExC wr) 19 (by kernel_rfl) (by kernel_rfl) (ExC.drawn _) (fun _ _ h k => ExC.ext h k) ?_; simp only [List.take_succ_cons, List.take_zero, List.drop_succ_cons, List.drop_zero]; (repeat (first | (refine headSkip (by rfl) rfl ?_; simp only [List.setIfInBounds_toArray, List.set_cons_zero, List.set_cons_succ]) | (refine headV (v := ?_) (by rfl) rfl (fun w' hcw => ?_) ?_; rotate_left; ((try dsimp only at hcw); have hbc := hcw.cells; go_simp; first | done | with_reducible rfl | fail); simp only [List.setIfInBounds_toArray, List.set_cons_zero, List.set_cons_succ]))); unfold wpHead)
                (refine tailK (by rfl) (fun w3 hc3 he3 K hK => ?_); go_simp; refine hK _ _ (hc3.ext (bel_alloc (Below.refl _ _) _)) ?_; clear hK K)
                have k3 := Blk.new w3 55 #[.int .i64 0, .int .i64 0]
                have hz3 := he3.size
                refine tailK (by rfl) (fun w4 hc4 he4 K hK => ?_)
                have k4 := k3.below he4
                have q1 : w4.cell? ⟨w3.heap.size, 0, none⟩ = some (.int .i64 0) := by simpa using k4.cell 0
                have q2 : w4.cell? ⟨w3.heap.size, 1, none⟩ = some (.int .i64 0) := by simpa using k4.cell 1
                have f1 := k4.frozen 0
                have f2 := k4.frozen 1
                go_simp
                refine hK _ _ (bel_set (bel_set hc4 (by simp; omega)) (by simp; omega)) ?_
                clear hK K
                (refine fun w5 hc5 he5 => NoPanic.normal ?_)
                go_wp2_with fail
                go_meet
                exact ⟨_, rfl, blk_two k4 he5, hz3, hc5⟩
            case rest =>
              obtain ⟨pb, rfl, hkb, hpb, hbx⟩ := hcut
              have b1 := hkb.cell 0
              have b2 := hkb.cell 1
              simp only [List.getElem?_toArray, List.getElem?_cons_zero, List.getElem?_cons_succ] at b1 b2
              have hpl := hkb.lt
              have hT2 := Lib.hid (HT.out.below hbx)
              have hrw := hr.below (bel_trans hb hbx)
              have hb2 := bel_trans hb hbx
              have rs := Rd.of_own hT2.out.two.own1
              have HLC : Hid ((cs L).length = m) := by show (cs L).length = m; rw [cs_len]; exact HM.out.symm
              clear c1 c2 HT hgs
              have HND : Hid (newD xs L (mx, my) = (hasC xs mx my && !hasC (cs L) mx my)) := rfl
              have HOLD : Hid (newD xs L (mx, my) = false → seqF xs (4 * i + (d + 1)) = L) := fun h => by
                show seqF xs (4 * i + d + 1) = L
                rw [HSX.out]; unfold stepF; rw [HQ.out]; simp only [HX.out, h]; simp
              cases h1 : hasC xs mx my with
              | false =>
                have HN := Lib.hid (HOLD.out (by rw [HND.out, h1]; rfl))
                have H1 := Lib.hid h1
                clear h1 HOLD HND
                go_wp2_with fail
                refine (HasCell_s _ _ _ xs mx my _ hrw HL.out (by omega)).mono ?_
                rw [H1.out]
                rintro e w2 ⟨rfl, hb3⟩
                go_wp2_with fail
                exact ⟨⟨d + 1, m, cA, cB, _, B', hs, by omega, him, hmn, rfl, rfl, by go_num, by rw [HN.out]; exact HM.out, by rw [HN.out]; exact hT2.out.below hb3, (by (repeat (first | with_reducible exact Below.refl _ _ | with_reducible assumption | with_reducible apply bel_alloc | with_reducible apply bel_drew | with_reducible apply bel_drewN | ((with_reducible refine bel_set ?_ ?_); rotate_left; (simp <;> omega)) | (with_reducible refine bel_trans ?_ (by with_reducible assumption)))))⟩, by simp [intOf]; omega⟩
              | true =>
                cases h2 : hasC (cs L) mx my with
                | true =>
                  have HN := Lib.hid (HOLD.out (by rw [HND.out, h1, h2]; rfl))
                  have H1 := Lib.hid h1
                  have H2 := Lib.hid h2
                  clear h1 h2 HOLD HND
                  go_wp2_with fail
                  refine (HasCell_s _ _ _ xs mx my _ hrw HL.out (by omega)).mono ?_
                  rw [H1.out]
                  rintro e w2 ⟨rfl, hb3⟩
                  have y1 := keep_below hb3 b1
                  have y2 := keep_below hb3 b2
                  go_wp2_with fail
                  refine (HasCell_s _ _ _ (cs L) mx my _ (rs.below hb3) HLC.out (by omega)).mono ?_
                  rw [H2.out]
                  rintro e w3 ⟨rfl, hb4⟩
                  go_wp2_with fail
                  exact ⟨⟨d + 1, m, cA, cB, _, B', hs, by omega, him, hmn, rfl, rfl, by go_num, by rw [HN.out]; exact HM.out, by rw [HN.out]; exact (hT2.out.below hb3).below hb4, (by (repeat (first | with_reducible exact Below.refl _ _ | with_reducible assumption | with_reducible apply bel_alloc | with_reducible apply bel_drew | with_reducible apply bel_drewN | ((with_reducible refine bel_set ?_ ?_); rotate_left; (simp <;> omega)) | (with_reducible refine bel_trans ?_ (by with_reducible assumption)))))⟩, by simp [intOf]; omega⟩
                | false =>
                  have hil : i < L.length := by have := HM.out; omega
                  have HN : Hid (seqF xs (4 * i + (d + 1)) = L ++ [((mx, my), rollL f d)]) := by
                    show seqF xs (4 * i + d + 1) = _
                    rw [HSX.out]; unfold stepF; rw [HQ.out, if_pos ⟨hil, by simp only [HX.out, HND.out, h1, h2]; rfl⟩]; simp only [HX.out]
                  have hle2 : m + 1 ≤ n := by
                    have h := HGL.out (4 * i + (d + 1))
                    rw [HN.out, List.length_append, List.length_singleton] at h
                    have := HM.out; omega
                  have H1 := Lib.hid h1
                  have H2 := Lib.hid h2
                  clear h1 h2 HOLD HND
                  go_wp2_with fail
                  refine (HasCell_s _ _ _ xs mx my _ hrw HL.out (by omega)).mono ?_
                  rw [H1.out]
                  rintro e w2 ⟨rfl, hb3⟩
                  have y1 := keep_below hb3 b1
                  have y2 := keep_below hb3 b2
                  go_wp2_with fail
                  refine (HasCell_s _ _ _ (cs L) mx my _ (rs.below hb3) HLC.out (by omega)).mono ?_
                  rw [H2.out]
                  rintro e w3 ⟨rfl, hb4⟩
                  have y3 := keep_below hb4 y1
                  have y4 := keep_below hb4 y2
                  have hT4 := (hT2.out.below hb3).below hb4
                  have hro := hT4.two.rows
                  have hhl : i < hs.length := by rw [hro.len]; simpa using hil
                  obtain ⟨gB, offB, rfl, hgB, l1⟩ := RdS.at_ (Rd.of_own hT4.two.own2) hhl
                  have hrow := hro.at_ i hhl (by simpa using hil)
                  have hfe : (L.map (·.2))[i]'(by simpa using hil) = f := by
                    have := HQ.out
                    rw [List.getD_eq_getElem?_getD, List.getElem?_eq_getElem hil] at this
                    simp only [Option.getD_some] at this
                    simp [this]
                  rw [hfe] at hrow
                  have hf6 : f.length = 6 := by
                    have := HGD.out.six _ (getD_memF hil)
                    rw [HQ.out] at this
                    exact this
                  obtain ⟨⟨D0, n0, c0⟩, hh⟩ : ∃ h, hs[i] = h := ⟨_, rfl⟩
                  rw [hh] at l1 hrow
                  obtain ⟨hr6, _, hrd⟩ := hrow
                  simp only at l1 hr6 hrd
                  rw [hf6] at hr6
                  subst hr6
                  have HF6 := Lib.hid hf6
                  have hok : Hid (rollOk f (d : Int) = true) := by show rollOk f (d : Int) = true; unfold rollOk; rw [hf6]; simp; omega
                  have hrv : Hid (rollV f (d : Int) = rollL f d) := by show rollV f (d : Int) = _; unfold rollV; rw [hok.out]; simp
                  have HT4 := Lib.hid hT4
                  clear hT4 hro hh hfe hf6 hT2 rs b1 b2 y1 y2
                  go_wp2_with fail
                  refine (RollFaces_s D0 6 c0 f d _ hrd HF6.out (by omega)).mono ?_
                  rw [hrv.out, hok.out]
                  rintro e w4 ⟨D, mf, cf, rfl, hof, hb5⟩
                  have hm6 : 6 = mf := by have := own_len hof; rw [vI_length, rollL_len] at this; omega
                  subst hm6
                  have u1 := keep_below hb5 y3
                  have u2 := keep_below hb5 y4
                  have hT5 := Lib.hid (HT4.out.below hb5)
                  have rD := Rd.of_own hof
                  have hDlt := own_lt hof
                  have hAlt := own_lt HT4.out.two.own1
                  have hBlt := own_lt HT4.out.two.own2
                  have hg0lt := HT4.out.two.beside.lt
                  have hb04 : Below w.heap.size w w4 := bel_trans (bel_trans (bel_trans hb2 hb3) hb4) hb5
                  have hz04 := hb04.size
                  clear hof y3 y4 hrd
                  go_upto_region 16 with (at_builtin; go_must (refine app_C _ rfl _ _ rfl w.heap.size _ _ _ (cs L) rfl (hT5.out.two.own1.alloc _) _ _ _ [(mx, my)] rfl (rd_newC _ _ _ _) rfl (by omega) (by simp; omega) ?_); intro A2 c2 w5 hoA hgA hatA; have HOA := Lib.hid hoA; have HGA := Lib.hid hgA; have HATA := Lib.hid hatA; clear hoA hgA hatA)
                  have hb45 : Below w.heap.size w w5 := bel_app (bel_alloc hb04 _) HGA.out (fun g h => (hAlt g h).1)
                  have hz45 := hb45.size
                  have hoB5 : w5.ownsRow w.heap.size 24 1 (.slice (some ⟨gB, offB, none⟩) m cB) m (vS hs) := ((hT5.out.two.own2).alloc _).kept HGA.out (by
                    rw [ownBlock_slice]
                    right
                    intro e
                    exact (hT5.out.two.sepA gB e.symm).1 rfl)
                  have HOB := Lib.hid hoB5
                  clear hoB5
                  go_wp2_with (at_builtin; go_must (refine app_S _ rfl _ _ rfl w.heap.size _ _ _ hs rfl (HOB.out.alloc _) _ _ _ [(D, 6, cf)] rfl (rd_newS _ _ (D, 6, cf)) rfl (by omega) (by simp; omega) ?_); intro B2 c3 w6 hoB hgB2 hatB; have HOB6 := Lib.hid hoB; have HGB6 := Lib.hid hgB2; have HATB6 := Lib.hid hatB; clear hoB hgB2 hatB)
                  have hb06 : Below w.heap.size w w6 := bel_app (bel_alloc hb45 _) HGB6.out (fun g h => (hBlt g h).1)
                  have hT6 := Two0.push hT5.out rD (rollL_len f d).symm (by rw [rollL_len]; omega) (fun g h => by
                    have h1 := (hDlt g h).1
                    refine ⟨fun e => ?_, fun e => ?_, fun e => ?_⟩
                    · have := (hAlt g e).2; omega
                    · have := (hBlt g e).2; omega
                    · omega) HOA.out HGA.out HATA.out (bel_alloc (Below.refl _ _) _) HOB6.out HGB6.out HATB6.out
                  have HT6 := Lib.hid hT6
                  clear hT6
                  exact ⟨⟨d + 1, m + 1, c2, c3, A2, B2, _, by omega, by omega, by omega, rfl, rfl, by go_num, by rw [HN.out, List.length_append, HM.out]; rfl, by rw [HN.out, cs_app, List.map_append]; exact HT6.out, hb06⟩, by simp [intOf]; omega⟩
          · have hd4' : d = 4 := by omega
            subst hd4'
            have HM := Lib.hid hm
            have HT := Lib.hid hT
            clear hm hT
            go_wp2_with fail
            exact ⟨⟨i + 1, m, cA, cB, A', B', hs, by omega, hmn, rfl, rfl, by go_num, HM.out, HT.out, hb⟩, by simp [intOf]; omega⟩
      · have him2 : i = m := by omega
        have hfin := HEND.out i (by omega)
        rw [hfin] at hm hT
        have hgd := HG.out (4 * i)
        rw [hfin] at hgd
        generalize facesL xs = L at hm hT HV hfin hgd
        have hlt2 : ¬ (i : Int) < (m : Int) := by omega
        have HM := Lib.hid hm
        have HGD := Lib.hid hgd
        have HT := Lib.hid hT
        clear hm hT hgd hfin him2
        go_wp2_with fail
        go_loopw [12] (fun e wr => ∃ k : Nat, k ≤ n ∧ e = .int .i64 k ∧ Two0 w.heap.size g0 55 2 (vC (cs L)) A' m cA B' cB hs (L.map (·.2)) ((xs.take k).map (face0 L) ++ List.replicate (n - k) 0) wr ∧ Below w.heap.size w wr) (fun e _ => n - (intOf e).toNat)
        case atStart => exact ⟨0, by omega, rfl, HT.out, hb⟩
        case round =>
          clear HT hb
          obtain ⟨k, hk, rfl, hT, hb⟩ := hrel
          by_cases hkn : k < n
          · have hkx : k < xs.length := by rw [HL.out]; exact hkn
            have hk0 : (0 : Int) ≤ (k : Int) := by omega
            have hk1 : (k : Int) < (n : Int) := by omega
            have HE : Hid (List.replicate (n - k) (0 : Int) = face0 (L.take 0) xs[k] :: List.replicate (n - (k + 1)) 0) := by
              show List.replicate (n - k) (0 : Int) = _
              rw [show n - k = (n - (k + 1)) + 1 by omega]; rfl
            rw [HE.out] at hT
            have HT := Lib.hid hT
            clear hT
            go_wp2_with fail
            go_loopw [13] (fun e wr => ∃ j : Nat, j ≤ m ∧ e = .int .i64 j ∧ Two0 w.heap.size g0 55 2 (vC (cs L)) A' m cA B' cB hs (L.map (·.2)) ((xs.take k).map (face0 L) ++ face0 (L.take j) xs[k] :: List.replicate (n - (k + 1)) 0) wr ∧ Below w.heap.size w wr) (fun e _ => m - (intOf e).toNat)
            case atStart => exact ⟨0, by omega, rfl, HT.out, hb⟩
            case round =>
              clear HT hb HE
              obtain ⟨j, hj, rfl, hT, hb⟩ := hrel
              by_cases hjm : j < m
              · have hjL : j < L.length := by have := HM.out; omega
                have hjC : j < (cs L).length := by rw [cs_len]; exact hjL
                have hj0 : (0 : Int) ≤ (j : Int) := by omega
                have hj1 : (j : Int) < (m : Int) := by omega
                have hrw := hr.below hb
                obtain ⟨ga', offa', hga', hgx, c1, c2⟩ := RdC.at_ hrw hkx
                simp only [Option.some.injEq, Addr.mk.injEq, and_true] at hga'
                obtain ⟨rfl, rfl⟩ := hga'
                obtain ⟨gs, offs, hAs, hgs, d1, d2⟩ := RdC.at_ (Rd.of_own hT.two.own1) hjC
                subst hAs
                have hce : (cs L)[j] = L[j].1 := by simp [cs]
                rw [hce] at d1 d2
                have hft := face0_take HGD.out.nd hjL xs[k]
                obtain ⟨⟨x, y⟩, hx⟩ : ∃ p, xs[k] = p := ⟨_, rfl⟩
                obtain ⟨⟨⟨a, b⟩, f⟩, hp⟩ : ∃ p, L[j] = p := ⟨_, rfl⟩
                rw [hx] at c1 c2 hft hT
                rw [hp] at d1 d2 hft
                simp only at d1 d2 hft
                by_cases hxy : a = x ∧ b = y
                · obtain ⟨rfl, rfl⟩ := hxy
                  simp only [beq_self_eq_true, if_true] at hft
                  have HT := Lib.hid hT
                  have HFT := Lib.hid hft
                  have HP := Lib.hid hp
                  have HX := Lib.hid hx
                  have e1 : (a == a) = true := by simp
                  have e2 : (b == b) = true := by simp
                  clear hT hft hp hx hce
                  go_wp2_with fail
                  (refine wp_region_below (by kernel_rfl) (by kernel_rfl) ?_; (repeat (first | go_big_quiet_skip | (refine quietV (v := ?_) (by rfl) rfl (fun w' hbw => ?_) ?_; rotate_left; ((try dsimp only at hbw); have hbc := (bcell hbw).1; have hbf := (bcell hbw).2; go_simp; first | done | with_reducible rfl | fail); simp only [List.setIfInBounds_toArray, List.set_cons_zero, List.set_cons_succ]))); refine wpQuiet_nil ?_; intro wq hq)
                  have hT := HT.out.below hq
                  have hro := hT.two.rows
                  have hhl : j < hs.length := by rw [hro.len]; simpa using hjL
                  obtain ⟨gB, offB, hBe, hgB, l1⟩ := RdS.at_ (Rd.of_own hT.two.own2) hhl
                  subst hBe
                  have hrow := hro.at_ j hhl (by simpa using hjL)
                  have hfe : (L.map (·.2))[j]'(by simpa using hjL) = f := by simp [HP.out]
                  rw [hfe] at hrow
                  obtain ⟨⟨D0, n0, c0⟩, hh⟩ : ∃ h, hs[j] = h := ⟨_, rfl⟩
                  rw [hh] at l1 hrow
                  obtain ⟨hr6, hfp, hrd⟩ := hrow
                  simp only at l1 hr6 hrd
                  obtain ⟨gD, offD, hDe, hgD, r1⟩ := RdI.at_ hrd hfp
                  subst hDe
                  rw [Nat.add_zero] at r1
                  have hft := HFT.out
                  have hgd0 : f.getD 0 0 = f[0] := by rw [List.getD_eq_getElem?_getD, List.getElem?_eq_getElem hfp]; rfl
                  rw [hgd0] at hft
                  have hn0p : (0 : Int) < (n0 : Int) := by omega
                  have hpl : ((xs.take k).map (face0 L)).length = k := by rw [List.length_map, List.length_take]; omega
                  have hcell := mid_cell hT.two.beside hpl
                  have hfr := hT.two.beside.frozen k
                  have hT2 : Two0 w.heap.size g0 55 2 (vC (cs L)) (some ⟨gs, offs, none⟩) m cA (some ⟨gB, offB, none⟩) cB hs (L.map (·.2)) ((xs.take k).map (face0 L) ++ face0 (L.take (j + 1)) xs[k] :: List.replicate (n - (k + 1)) 0) (wq.setCell ⟨g0, k, none⟩ (.int .i64 f[0])) := by
                    have h := hT.set_ k f[0]
                    rw [mid_set hpl] at h
                    rw [HX.out, hft]
                    exact h
                  have HT2 := Lib.hid hT2
                  have hbw : Below w.heap.size w wq := bel_trans hb hq
                  clear hT2 hT hft hgd0 hr6 hh hfe hro hpl
                  go_wp2_with fail
                  exact ⟨⟨j + 1, by omega, by go_num, HT2.out, bel_set hbw hg0b⟩, by simp [intOf]; omega⟩
                · have hN : face0 (L.take (j + 1)) (x, y) = face0 (L.take j) (x, y) := by
                    rw [hft, if_neg]
                    intro h
                    have h2 : ((a, b) : C) = (x, y) := by simpa using h
                    injection h2 with h3 h4
                    exact hxy ⟨h3, h4⟩
                  rw [← hN, ← hx] at hT
                  have HT := Lib.hid hT
                  have hbw := hb
                  clear hT hft hN hp hx hce
                  by_cases hax : a = x
                  · have hby : ¬ b = y := fun h => hxy ⟨hax, h⟩
                    subst hax
                    have e1 : (a == a) = true := by simp
                    have e2 : (y == b) = false := by simp; omega
                    clear hxy hby
                    go_wp2_with fail
                    (refine wp_region_below (by kernel_rfl) (by kernel_rfl) ?_; (repeat (first | go_big_quiet_skip | (refine quietV (v := ?_) (by rfl) rfl (fun w' hbw => ?_) ?_; rotate_left; ((try dsimp only at hbw); have hbc := (bcell hbw).1; have hbf := (bcell hbw).2; go_simp; first | done | with_reducible rfl | fail); simp only [List.setIfInBounds_toArray, List.set_cons_zero, List.set_cons_succ]))); refine wpQuiet_nil ?_; intro wq hq)
                    go_wp2_with fail
                    exact ⟨⟨j + 1, by omega, by go_num, HT.out.below hq, (by (repeat (first | with_reducible exact Below.refl _ _ | with_reducible assumption | with_reducible apply bel_alloc | with_reducible apply bel_drew | with_reducible apply bel_drewN | ((with_reducible refine bel_set ?_ ?_); rotate_left; (simp <;> omega)) | (with_reducible refine bel_trans ?_ (by with_reducible assumption)))))⟩, by simp [intOf]; omega⟩
                  · have e1 : (x == a) = false := by simp; omega
                    clear hxy hax
                    go_wp2_with fail
                    (refine wp_region_below (by kernel_rfl) (by kernel_rfl) ?_; (repeat (first | go_big_quiet_skip | (refine quietV (v := ?_) (by rfl) rfl (fun w' hbw => ?_) ?_; rotate_left; ((try dsimp only at hbw); have hbc := (bcell hbw).1; have hbf := (bcell hbw).2; go_simp; first | done | with_reducible rfl | fail); simp only [List.setIfInBounds_toArray, List.set_cons_zero, List.set_cons_succ]))); refine wpQuiet_nil ?_; intro wq hq)
                    go_wp2_with fail
                    exact ⟨⟨j + 1, by omega, by go_num, HT.out.below hq, (by (repeat (first | with_reducible exact Below.refl _ _ | with_reducible assumption | with_reducible apply bel_alloc | with_reducible apply bel_drew | with_reducible apply bel_drewN | ((with_reducible refine bel_set ?_ ?_); rotate_left; (simp <;> omega)) | (with_reducible refine bel_trans ?_ (by with_reducible assumption)))))⟩, by simp [intOf]; omega⟩
              · have hjm2 : j = m := by omega
                have HTK : Hid ((xs.take k).map (face0 L) ++ face0 (L.take j) xs[k] :: List.replicate (n - (k + 1)) 0 = (xs.take (k + 1)).map (face0 L) ++ List.replicate (n - (k + 1)) 0) := by
                  show (xs.take k).map (face0 L) ++ face0 (L.take j) xs[k] :: List.replicate (n - (k + 1)) 0 = _
                  rw [List.take_of_length_le (l := L) (by have := HM.out; omega), List.take_succ_eq_append_getElem hkx, List.map_append, List.append_assoc]; rfl
                rw [HTK.out] at hT
                have HT := Lib.hid hT
                have hj1 : ¬ (j : Int) < (m : Int) := by omega
                clear hT hjm2 HTK
                go_wp2_with fail
                exact ⟨⟨k + 1, by omega, by go_num, HT.out, hb⟩, by simp [intOf]; omega⟩
          · have hkn2 : k = n := by omega
            subst hkn2
            rw [List.take_of_length_le (by rw [HL.out]; omega), Nat.sub_self, List.replicate_zero, List.append_nil, ← HV.out] at hT
            have hfl : (vI (faces xs)).toArray.size = k * 1 := by rw [List.size_toArray, vI_length, HV.out, List.length_map, HL.out]; omega
            have ho := own_blk hT.two.beside hfl hg0b (by unfold maxLen; omega)
            have HO := Lib.hid ho
            clear ho hT hfl
            go_wp2
            go_ret2
            exact ⟨_, _, _, rfl, by have h := HO.out; simpa using h, hb⟩
end Go.Proofs.Ytagkopemcabkpaa
