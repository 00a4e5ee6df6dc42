/- Texts of this claim, one behind the other: part 3. -/
import Derived.Test.YtoedmmhiinhljaaDoorU2CanonicalTiling
import Derived.Outline
import Derived.WalkLawsBesides
import Derived.WalkSpells
import Derived.BigQuiet
import Derived.Deep.QuietTactic
import Derived.Deep.RegionHeld3
import Derived.Deep.RegionWith
import Derived.Deep.DeepCutAuto
import Derived.Deep.CutBlock
import Derived.Deep.DrawnRows
import Derived.Ground.GgsProg
import Derived.Shelf.GgSortFunc.Insertion
import Derived.Shelf.GgSortFunc.InsertionK
import Derived.Shelf.GgSortFunc.Tiny
import Derived.Shelf.GgSortFunc.Compose
import Derived.Ground.GgtProg
import Derived.Shelf.GgSortMore.Stable
import Derived.Shelf.SlSortFuncK.ComposeK
import Derived.Test.YtoedmmhiinhljaaDoorProg
import Derived.Test.YtoedmmhiinhljaaDoorRows
import Derived.Lib.LaidTab
import Derived.LaidMore
import Derived.Stop.LaidErr
import Derived.MakeChecks
import Derived.Lib.SmallJoins
/- The library's merge of two sorted segments: the search in the middle, the rotation, both halves. -/
namespace Go.Proofs.YtoedmmhiinhljaaDoor
open Go.RowKit Go.Shelf
set_option linter.unusedVariables false
attribute [local go_sem ↓] Go.wp_at_zero Go.wp_at_succ


set_option maxRecDepth 100000 in
set_option maxHeartbeats 12800000 in
theorem symC (sf : Nat) (th : Value) (base g n c B : Nat) (hsw : SwT sf th base g n c B) (hn : n ≤ 1099511627776) (a m b : Nat) (d0 : Nat → Int) (w : World)
    (IH : ∀ (a' m' b' : Nat) (d' : Nat → Int) (w' : World), b' - a' < b - a → SS w' base g n c B d' → a' < m' → m' < b' → b' ≤ n → StM.Srt keyT a' m' d' → StM.Srt keyT m' b' d' → Calls Tryd.prog 57 #[.agg #[.func (.func 27) #[] #[.pointer (some ⟨B, 0, none⟩)], .func (.func sf) #[] #[.slice (some ⟨g, 0, none⟩) n c, th]], .int .i64 (a' : Int), .int .i64 (m' : Int), .int .i64 (b' : Int)] w' (StP w' base g n c B fun d2 => StM.Stb keyT a' b' d' d2 ∧ StM.Srt keyT a' b' d2))
    (h : SS w base g n c B d0) (ham : a + 1 < m) (hbm : m + 1 < b) (hb : b ≤ n) (h5 : StM.Srt keyT a m d0) (h6 : StM.Srt keyT m b d0) :
    Calls Tryd.prog 57 #[.agg #[.func (.func 27) #[] #[.pointer (some ⟨B, 0, none⟩)], .func (.func sf) #[] #[.slice (some ⟨g, 0, none⟩) n c, th]], .int .i64 (a : Int), .int .i64 (m : Int), .int .i64 (b : Int)] w (StP w base g n c B fun d' => StM.Stb keyT a b d0 d' ∧ StM.Srt keyT a b d') := by
  have hgl := h.lt.2
  have HS := Lib.hid (h.keep (bel_alloc (Below.refl _ _) (.cells #[.func (.func 27) #[] #[.pointer (some ⟨B, 0, none⟩)], .func (.func sf) #[] #[.slice (some ⟨g, 0, none⟩) n c, th]] 64)))
  have HSW := Lib.hid hsw
  have HBB := Lib.hid (Blk.new w 64 #[.func (.func 27) #[] #[.pointer (some ⟨B, 0, none⟩)], .func (.func sf) #[] #[.slice (some ⟨g, 0, none⟩) n c, th]])
  have HIH := Lib.hid @IH
  have H5 := Lib.hid h5
  have H6 := Lib.hid h6
  obtain ⟨W0, hW0⟩ : ∃ W0, (w.alloc (.cells #[.func (.func 27) #[] #[.pointer (some ⟨B, 0, none⟩)], .func (.func sf) #[] #[.slice (some ⟨g, 0, none⟩) n c, th]] 64)) = W0 := ⟨_, rfl⟩
  rw [hW0] at HS HBB
  have hw0 : w.grownBy W0 (some g) := by rw [← hW0]; exact grown_allocT (World.grownBy.refl _ _)
  have HW0 := Lib.hid hW0
  have HG0 := Lib.hid hw0
  obtain ⟨z, hz⟩ : ∃ z, m - a = z := ⟨_, rfl⟩
  have hzI : (m : Int) - (a : Int) = (z : Int) := by omega
  have hzw : IntKind.i64.wrap (z : Int) = (z : Int) := Go.IntWalk.i64_in _ (by omega)
  have hz1 : ((z : Int) == 1) = false := by rw [beq_eq_false_iff_ne]; omega
  obtain ⟨v, hv⟩ : ∃ v, b - m = v := ⟨_, rfl⟩
  have hvI : (b : Int) - (m : Int) = (v : Int) := by omega
  have hvw : IntKind.i64.wrap (v : Int) = (v : Int) := Go.IntWalk.i64_in _ (by omega)
  have hv1 : ((v : Int) == 1) = false := by rw [beq_eq_false_iff_ne]; omega
  obtain ⟨t, ht⟩ : ∃ t, a + b = t := ⟨_, rfl⟩
  have htI : (a : Int) + (b : Int) = (t : Int) := by omega
  have htw : IntKind.i64.wrap (t : Int) = (t : Int) := Go.IntWalk.i64_in _ (by omega)
  have htu : IntKind.u64.wrap (t : Int) = (t : Int) := by rw [IntKind.wrap_u64]; omega
  obtain ⟨mid, hmid⟩ : ∃ mid, t / 2 = mid := ⟨_, rfl⟩
  have hmidI : (t : Int) / 2 = (mid : Int) := by omega
  have hmidw : IntKind.i64.wrap (mid : Int) = (mid : Int) := Go.IntWalk.i64_in _ (by omega)
  have hmidu : IntKind.u64.wrap (mid : Int) = (mid : Int) := by rw [IntKind.wrap_u64]; omega
  obtain ⟨N, hN⟩ : ∃ N, mid + m = N := ⟨_, rfl⟩
  have hNI : (mid : Int) + (m : Int) = (N : Int) := by omega
  have hNw : IntKind.i64.wrap (N : Int) = (N : Int) := Go.IntWalk.i64_in _ (by omega)
  obtain ⟨p, hp⟩ : ∃ p, N - 1 = p := ⟨_, rfl⟩
  have hpI : (N : Int) - 1 = (p : Int) := by omega
  have hpw : IntKind.i64.wrap (p : Int) = (p : Int) := Go.IntWalk.i64_in _ (by omega)
  have hm2 : mid = (a + b) / 2 := by omega
  obtain ⟨s0, r0, hs0⟩ : ∃ s0 r0, StM.Mid a m b mid s0 r0 := by
    rcases Nat.lt_or_ge mid m with hc | hc
    · exact ⟨mid + m - b, mid, .inl ⟨hc, rfl, rfl⟩⟩
    · exact ⟨a, m, .inr ⟨hc, rfl, rfl⟩⟩
  have hsle := StM.Mid.le (by omega) (by omega) hm2 hs0
  have HMID := Lib.hid hs0
  have HM2 := Lib.hid hm2
  have HN := Lib.hid hN
  have HP := Lib.hid hp
  have hab : a < m := by omega
  have hmb : m < b := by omega
  have hmida : a < mid := by omega
  have hmidb : mid < b := by omega
  clear hsw h h5 h6 hz hv ht hmid hW0 hw0 IH hs0 hm2 hN hp
  go_enter Tryd.func57, Tryd.ntmps57
  go_upto_if 106 with fail
  go_cut [18, 19] (fun e18 e19 wc => e18 = .int .i64 (s0 : Int) ∧ e19 = .int .i64 (r0 : Int) ∧ wc = (w.alloc (.cells #[.func (.func 27) #[] #[.pointer (some ⟨B, 0, none⟩)], .func (.func sf) #[] #[.slice (some ⟨g, 0, none⟩) n c, th]] 64)))
  case first =>
    rcases HMID.out with ⟨hc, hs, hr⟩ | ⟨hc, hs, hr⟩
    · have hcI : (m : Int) > (mid : Int) := by omega
      have hsI : (N : Int) - (b : Int) = (s0 : Int) := by have := HN.out; omega
      have hsw : IntKind.i64.wrap (s0 : Int) = (s0 : Int) := Go.IntWalk.i64_in _ (by omega)
      have HR := Lib.hid hr
      clear hs hr hc
      go_wp2_with fail
      go_meet
      exact ⟨rfl, by rw [HR.out], rfl⟩
    · have hcI : ¬ (m : Int) > (mid : Int) := by omega
      have HSS := Lib.hid hs
      have HR := Lib.hid hr
      clear hs hr hc
      go_wp2_with fail
      go_meet
      exact ⟨by rw [HSS.out], by rw [HR.out], rfl⟩
  case rest =>
    obtain ⟨rfl, rfl, hwc⟩ := hcut
    rw [HW0.out] at hwc
    have hwc2 := hwc.symm
    clear hwc
    subst hwc2
    clear hzI hzw hz1 hvI hvw hv1 htI htw htu hmidI hmidw hmidu hNI
    go_wp2_with fail
    go_loopw [18, 19] (fun e8 e9 wr => ∃ (s r : Nat), s0 ≤ s ∧ s ≤ r ∧ r ≤ r0 ∧ e8 = .int .i64 s ∧ e9 = .int .i64 r ∧ (∀ k, s0 ≤ k → k < s → keyT (d0 k) ≤ keyT (d0 (mid + m - 1 - k))) ∧ (∀ k, r ≤ k → k < r0 → keyT (d0 (mid + m - 1 - k)) < keyT (d0 k)) ∧ SS wr base g n c B d0 ∧ W0.grownBy wr (some g)) (fun e8 e9 _ => (intOf e9).toNat - (intOf e8).toNat)
    case atStart => exact ⟨s0, r0, Nat.le_refl _, hsle.2.1, Nat.le_refl _, rfl, rfl, (fun k h1 h2 => by omega), (fun k h1 h2 => by omega), HS.out, World.grownBy.refl _ _⟩
    case round =>
      obtain ⟨s, r, hss, hsr, hrr, rfl, rfl, hlo, hhi, hown, hg⟩ := hrel
      have HLO := Lib.hid hlo
      have HHI := Lib.hid hhi
      have HOW := Lib.hid hown
      have HG := Lib.hid hg
      clear hlo hhi hown hg
      by_cases hlt : s < r
      · have hltI : (s : Int) < (r : Int) := by omega
        obtain ⟨u, hu⟩ : ∃ u, s + r = u := ⟨_, rfl⟩
        have huI : (s : Int) + (r : Int) = (u : Int) := by omega
        have huw : IntKind.i64.wrap (u : Int) = (u : Int) := Go.IntWalk.i64_in _ (by omega)
        have huu : IntKind.u64.wrap (u : Int) = (u : Int) := by rw [IntKind.wrap_u64]; omega
        obtain ⟨q, hq⟩ : ∃ q, u / 2 = q := ⟨_, rfl⟩
        have hqI : (u : Int) / 2 = (q : Int) := by omega
        have hqw : IntKind.i64.wrap (q : Int) = (q : Int) := Go.IntWalk.i64_in _ (by omega)
        have hqu : IntKind.u64.wrap (q : Int) = (q : Int) := by rw [IntKind.wrap_u64]; omega
        have hat := StM.Mid.at_ hab hmb HM2.out HMID.out (by omega : s0 ≤ q) (by omega : q < r0)
        have HQ := Lib.hid (show s ≤ q ∧ q < r by omega)
        obtain ⟨y, hy⟩ : ∃ y, p - q = y := ⟨_, rfl⟩
        have hyI : (p : Int) - (q : Int) = (y : Int) := by have := HN.out; have := HP.out; omega
        have hyw : IntKind.i64.wrap (y : Int) = (y : Int) := Go.IntWalk.i64_in _ (by have := HN.out; have := HP.out; omega)
        have hye : mid + m - 1 - q = y := by have := HN.out; have := HP.out; omega
        have HYE := Lib.hid hye
        have hBB := HBB.out.grown HG.out (fun e => by injection e with e; omega)
        have b0 : wr.cell? ⟨w.heap.size, 0, none⟩ = some (.func (.func 27) #[] #[.pointer (some ⟨B, 0, none⟩)]) := by simpa using hBB.cell 0
        have bl := hBB.lt
        have hqn : q < n := by omega
        have hyn : y < n := by omega
        clear hBB hu hq hat hy hye
        by_cases hl : keyT (d0 y) < keyT (d0 q)
        · have HHI2 := Lib.hid (StM.bs3_hi hab hmb HM2.out HMID.out H5.out H6.out (by have := HQ.out; omega : s0 ≤ q) (by have := HQ.out; omega) (by rw [HYE.out]; exact hl))
          have HL := Lib.hid hl
          clear hl
          go_wp2_with fail
          refine (lessT HOW.out hyn hqn true (by rw [decide_eq_true HL.out])).mono ?_
          rintro e w1 ⟨rfl, hb1⟩
          go_wp2_with fail
          exact ⟨⟨s, q, hss, HQ.out.1, by have := HQ.out; omega, rfl, rfl, HLO.out, HHI2.out, HOW.out.keep hb1, grown_below HG.out hb1⟩, by have := HQ.out; simp [intOf]; omega⟩
        · have HLO2 := Lib.hid (StM.bs3_lo hab hmb HM2.out HMID.out H5.out H6.out (by have := HQ.out; omega : s0 ≤ q) (by have := HQ.out; omega) (by rw [HYE.out]; exact hl))
          have HL := Lib.hid hl
          clear hl
          go_wp2_with fail
          refine (lessT HOW.out hyn hqn false (by rw [decide_eq_false HL.out])).mono ?_
          rintro e w1 ⟨rfl, hb1⟩
          go_wp2_with fail
          exact ⟨⟨q + 1, r, by have := HQ.out; omega, by have := HQ.out; omega, hrr, by go_num, rfl, HLO2.out, HHI.out, HOW.out.keep hb1, grown_below HG.out hb1⟩, by have := HQ.out; simp [intOf]; omega⟩
      · obtain rfl : s = r := by omega
        have hltI : ¬ (s : Int) < (s : Int) := by omega
        obtain ⟨f1, f2, f3, f4, f5, f6, f7⟩ := StM.start_lo hab hmb HM2.out HMID.out hss hrr H5.out H6.out HLO.out HHI.out
        obtain ⟨E, hE⟩ : ∃ E, N - s = E := ⟨_, rfl⟩
        have hEe : mid + m - s = E := by have := HN.out; omega
        rw [hEe] at f3 f4 f5 f6 f7
        have hEI : (N : Int) - (s : Int) = (E : Int) := by have := HN.out; omega
        have hEw : IntKind.i64.wrap (E : Int) = (E : Int) := Go.IntWalk.i64_in _ (by omega)
        obtain ⟨k1, k2, k3, k4, k5, k6⟩ := StM.half f1 f2 f3 f4 f5 H5.out H6.out f6 f7
        have F6 := Lib.hid f6
        have F7 := Lib.hid f7
        have F5 := Lib.hid f5
        have K2 := Lib.hid k2
        have K3 := Lib.hid k3
        have K4 := Lib.hid k4
        have K5 := Lib.hid k5
        have hsmid : s ≤ mid := by omega
        have hmidE : mid ≤ E := by omega
        clear f5 f6 f7 k1 k2 k3 k4 k5 k6 hE hEe HLO HHI
        have hBB := HBB.out.grown HG.out (fun e => by injection e with e; omega)
        have b0 : wr.cell? ⟨w.heap.size, 0, none⟩ = some (.func (.func 27) #[] #[.pointer (some ⟨B, 0, none⟩)]) := by simpa using hBB.cell 0
        have b1 : wr.cell? ⟨w.heap.size, 1, none⟩ = some (.func (.func sf) #[] #[.slice (some ⟨g, 0, none⟩) n c, th]) := by simpa using hBB.cell 1
        have bl := hBB.lt
        clear hBB
        go_upto_region 40 with fail
        go_cut [145] (fun ec wx => ec = .bool (decide ((s : Int) < (m : Int)) && decide ((m : Int) < (E : Int))) ∧ wx = wr)
        case first =>
          by_cases hc1 : (s : Int) < (m : Int)
          · by_cases hc2 : (m : Int) < (E : Int)
            · go_wp2_with fail
              go_meet
              exact ⟨by rw [decide_eq_true (by omega : (s : Int) < (m : Int)), decide_eq_true (by omega : (m : Int) < (E : Int))]; rfl, rfl⟩
            · go_wp2_with fail
              go_meet
              exact ⟨by rw [decide_eq_true (by omega : (s : Int) < (m : Int)), decide_eq_false (by omega : ¬ (m : Int) < (E : Int))]; rfl, rfl⟩
          · go_wp2_with fail
            go_meet
            exact ⟨by rw [decide_eq_false (by omega : ¬ (s : Int) < (m : Int))]; rfl, rfl⟩
        case rest =>
        obtain ⟨rfl, hwx⟩ := hcut
        have hwx2 := hwx.symm
        clear hwx
        subst hwx2
        go_upto_if 145 with fail
        go_cut [22] (fun e22 wd => e22 = .int .i64 (E : Int) ∧ SS wd base g n c B (StM.rot d0 s m E) ∧ W0.grownBy wd (some g))
        case first =>
          by_cases hc1 : s < m
          · have hc1I : (s : Int) < (m : Int) := by omega
            by_cases hc2 : m < E
            · have hc2I : (m : Int) < (E : Int) := by omega
              go_wp2_with fail
              refine (rotT sf th base g n c B HSW.out s m E d0 _ HOW.out hc1 hc2 (by omega) hn).mono ?_
              rintro e w1 ⟨rfl, d1, hS1, hg1, rfl⟩
              have HS1 := Lib.hid hS1
              have HG1 := Lib.hid (HG.out.trans hg1)
              clear hS1 hg1
              go_wp2_with fail
              go_meet
              exact ⟨rfl, HS1.out, HG1.out⟩
            · have hc2I : ¬ (m : Int) < (E : Int) := by omega
              have HRI : Hid (StM.rot d0 s m E = d0) := by show _ = _; rw [show E = m by omega]; exact StM.rot_idr _ _ _ f2
              clear hc2
              go_wp2_with fail
              go_meet
              exact ⟨rfl, by rw [HRI.out]; exact HOW.out, HG.out⟩
          · have hc1I : ¬ (s : Int) < (m : Int) := by omega
            have HRI : Hid (StM.rot d0 s m E = d0) := by show _ = _; rw [show s = m by omega]; exact StM.rot_idl _ _ _ f3
            clear hc1
            go_wp2_with fail
            go_meet
            exact ⟨rfl, by rw [HRI.out]; exact HOW.out, HG.out⟩
        case rest =>
          clear HOW HG b0 b1 bl
          obtain ⟨rfl, hown, hg⟩ := hcut
          obtain ⟨d1, hd1⟩ : ∃ d1, StM.rot d0 s m E = d1 := ⟨_, rfl⟩
          rw [hd1] at hown K2 K3 K4 K5
          have HD1 := Lib.hid hd1
          have HOW := Lib.hid hown
          have HG := Lib.hid hg
          clear hown hg hd1
          obtain ⟨wd, hwd⟩ : ∃ wd, wd = wc := ⟨_, rfl⟩
          subst hwd
          have hBB := HBB.out.grown HG.out (fun e => by injection e with e; omega)
          have b0 : wd.cell? ⟨w.heap.size, 0, none⟩ = some (.func (.func 27) #[] #[.pointer (some ⟨B, 0, none⟩)]) := by simpa using hBB.cell 0
          have b1 : wd.cell? ⟨w.heap.size, 1, none⟩ = some (.func (.func sf) #[] #[.slice (some ⟨g, 0, none⟩) n c, th]) := by simpa using hBB.cell 1
          have bl := hBB.lt
          clear hBB
          go_upto_region 42 with fail
          go_cut [158] (fun ec wx => ec = .bool (decide ((a : Int) < (s : Int)) && decide ((s : Int) < (mid : Int))) ∧ wx = wd)
          case first =>
            by_cases hc1 : (a : Int) < (s : Int)
            · by_cases hc2 : (s : Int) < (mid : Int)
              · go_wp2_with fail
                go_meet
                exact ⟨by rw [decide_eq_true (by omega : (a : Int) < (s : Int)), decide_eq_true (by omega : (s : Int) < (mid : Int))]; rfl, rfl⟩
              · go_wp2_with fail
                go_meet
                exact ⟨by rw [decide_eq_true (by omega : (a : Int) < (s : Int)), decide_eq_false (by omega : ¬ (s : Int) < (mid : Int))]; rfl, rfl⟩
            · go_wp2_with fail
              go_meet
              exact ⟨by rw [decide_eq_false (by omega : ¬ (a : Int) < (s : Int))]; rfl, rfl⟩
          case rest =>
          obtain ⟨rfl, hwx⟩ := hcut
          have hwx2 := hwx.symm
          clear hwx
          subst hwx2
          go_upto_if 158 with fail
          go_cut [22] (fun e22 wd => e22 = .int .i64 (E : Int) ∧ ∃ d2, SS wd base g n c B d2 ∧ W0.grownBy wd (some g) ∧ StM.Stb keyT a mid d1 d2 ∧ StM.Srt keyT a mid d2)
          case first =>
            by_cases hc1 : a < s
            · have hc1I : (a : Int) < (s : Int) := by omega
              by_cases hc2 : s < mid
              · have hc2I : (s : Int) < (mid : Int) := by omega
                go_wp2_with fail
                refine (HIH.out a s mid d1 _ (by omega) HOW.out hc1 hc2 (by omega) K2.out K3.out).mono ?_
                rintro e w1 ⟨rfl, d2, hS1, hg1, t1, t2⟩
                have HS1 := Lib.hid hS1
                have HG1 := Lib.hid (HG.out.trans hg1)
                have T1 := Lib.hid t1
                have T2 := Lib.hid t2
                clear hS1 hg1 t1 t2
                go_wp2_with fail
                go_meet
                exact ⟨rfl, d2, HS1.out, HG1.out, T1.out, T2.out⟩
              · have hc2I : ¬ (s : Int) < (mid : Int) := by omega
                have T2 : Hid (StM.Srt keyT a mid d1) := by show StM.Srt _ _ _ _; rw [show mid = s by omega]; exact K2.out
                clear hc2
                go_wp2_with fail
                go_meet
                exact ⟨rfl, d1, HOW.out, HG.out, StM.Stb.refl _ _ _, T2.out⟩
            · have hc1I : ¬ (a : Int) < (s : Int) := by omega
              have T2 : Hid (StM.Srt keyT a mid d1) := by show StM.Srt _ _ _ _; rw [show a = s by omega]; exact K3.out
              clear hc1
              go_wp2_with fail
              go_meet
              exact ⟨rfl, d1, HOW.out, HG.out, StM.Stb.refl _ _ _, T2.out⟩
          case rest =>
            clear HOW HG b0 b1 bl
            obtain ⟨rfl, d2, hown, hg, t1, t2⟩ := hcut
            have HOW := Lib.hid hown
            have HG := Lib.hid hg
            have T1 := Lib.hid t1
            have T2 := Lib.hid t2
            have T3 : Hid (StM.Srt keyT mid E d2) := K4.out.eq fun k h1 h2 => T1.out.out k (.inr h1)
            have T4 : Hid (StM.Srt keyT E b d2) := K5.out.eq fun k h1 h2 => T1.out.out k (.inr (by omega))
            have FIN : Hid (∀ d3, StM.Stb keyT mid b d2 d3 ∧ StM.Srt keyT mid b d3 → StM.Stb keyT a b d0 d3 ∧ StM.Srt keyT a b d3) := fun d3 h3 =>
              StM.merge3 f1 f2 f3 f4 F5.out H5.out H6.out F6.out F7.out (by rw [HD1.out]; exact ⟨T1.out, T2.out⟩) h3
            clear hown hg t1 t2
            obtain ⟨we, hwe⟩ : ∃ we, we = wc := ⟨_, rfl⟩
            subst hwe
            have hBB := HBB.out.grown HG.out (fun e => by injection e with e; omega)
            have b0 : we.cell? ⟨w.heap.size, 0, none⟩ = some (.func (.func 27) #[] #[.pointer (some ⟨B, 0, none⟩)]) := by simpa using hBB.cell 0
            have b1 : we.cell? ⟨w.heap.size, 1, none⟩ = some (.func (.func sf) #[] #[.slice (some ⟨g, 0, none⟩) n c, th]) := by simpa using hBB.cell 1
            have bl := hBB.lt
            clear hBB
            by_cases hc1 : mid < E
            · have hc1I : (mid : Int) < (E : Int) := by omega
              by_cases hc2 : E < b
              · have hc2I : (E : Int) < (b : Int) := by omega
                go_wp2_with fail
                refine (HIH.out mid E b d2 _ (by omega) HOW.out hc1 hc2 hb T3.out T4.out).mono ?_
                rintro e w1 ⟨rfl, d3, hS1, hg1, t1, t2⟩
                have HS1 := Lib.hid hS1
                have HG1 := Lib.hid (HG0.out.trans (HG.out.trans hg1))
                have T5 := Lib.hid (FIN.out d3 ⟨t1, t2⟩)
                clear hS1 hg1 t1 t2
                go_wp2_with fail
                go_end0
                exact ⟨rfl, d3, HS1.out, HG1.out, T5.out⟩
              · have hc2I : ¬ (E : Int) < (b : Int) := by omega
                have T5 := Lib.hid (FIN.out d2 ⟨StM.Stb.refl _ _ _, by rw [show b = E by omega]; exact T3.out⟩)
                clear hc2
                go_wp2_with fail
                go_end0
                exact ⟨rfl, d2, HOW.out, HG0.out.trans HG.out, T5.out⟩
            · have hc1I : ¬ (mid : Int) < (E : Int) := by omega
              have T5 := Lib.hid (FIN.out d2 ⟨StM.Stb.refl _ _ _, by rw [show mid = E by omega]; exact T4.out⟩)
              clear hc1
              go_wp2_with fail
              go_end0
              exact ⟨rfl, d2, HOW.out, HG0.out.trans HG.out, T5.out⟩
/-- The merge. -/
theorem symT (sf : Nat) (th : Value) (base g n c B : Nat) (hsw : SwT sf th base g n c B) (hn : n ≤ 1099511627776) : ∀ (k a m b : Nat) (d0 : Nat → Int) (w : World), b - a ≤ k → SS w base g n c B d0 → a < m → m < b → b ≤ n → StM.Srt keyT a m d0 → StM.Srt keyT m b d0 →
    Calls Tryd.prog 57 #[.agg #[.func (.func 27) #[] #[.pointer (some ⟨B, 0, none⟩)], .func (.func sf) #[] #[.slice (some ⟨g, 0, none⟩) n c, th]], .int .i64 (a : Int), .int .i64 (m : Int), .int .i64 (b : Int)] w (StP w base g n c B fun d' => StM.Stb keyT a b d0 d' ∧ StM.Srt keyT a b d')
  | 0, a, m, b, d0, w, hk, h, h1, h2, h3, h5, h6 => by omega
  | k + 1, a, m, b, d0, w, hk, h, h1, h2, h3, h5, h6 => by
    by_cases c1 : m = a + 1
    · exact symA sf th base g n c B hsw hn a m b d0 w h c1 h2 h3 h6
    · by_cases c2 : b = m + 1
      · exact symB sf th base g n c B hsw hn a m b d0 w h (by omega) c2 h3 h5
      · exact symC sf th base g n c B hsw hn a m b d0 w (fun a' m' b' d' w' hlt => symT sf th base g n c B hsw hn k a' m' b' d' w' (by omega)) h (by omega) (by omega) h3 h5 h6
end Go.Proofs.YtoedmmhiinhljaaDoor

/- The library's insertion sort, which is stable. -/
namespace Go.Proofs.YtoedmmhiinhljaaDoor
open Go.RowKit Go.Shelf
set_option linter.unusedVariables false
attribute [local go_sem ↓] Go.wp_at_zero Go.wp_at_succ

set_option maxHeartbeats 3200000 in
theorem insT (sf : Nat) (th : Value) (base g n c B : Nat) (hsw : SwT sf th base g n c B) (a b : Nat) (d0 : Nat → Int) (w : World) (h : SS w base g n c B d0) (ha : a ≤ b) (hb : b ≤ n) (hn : n ≤ 1099511627776) :
    Calls Tryd.prog 56 #[.agg #[.func (.func 27) #[] #[.pointer (some ⟨B, 0, none⟩)], .func (.func sf) #[] #[.slice (some ⟨g, 0, none⟩) n c, th]], .int .i64 (a : Int), .int .i64 (b : Int)] w (StP w base g n c B fun d' => StM.Stb keyT a b d0 d' ∧ StM.Srt keyT a b d') := by
  have hgl := h.lt.2
  have HS := Lib.hid h
  have HSW := Lib.hid hsw
  have HBB := Lib.hid (Blk.new w 64 #[.func (.func 27) #[] #[.pointer (some ⟨B, 0, none⟩)], .func (.func sf) #[] #[.slice (some ⟨g, 0, none⟩) n c, th]])
  clear hsw h
  go_enter Tryd.func56, Tryd.ntmps56
  go_wp2
  go_loopw [6] (fun e6 wr => ∃ (i : Nat) (d : Nat → Int), a + 1 ≤ i ∧ (i ≤ b ∨ i = a + 1) ∧ e6 = .int .i64 i ∧ StM.Stb keyT a b d0 d ∧ StM.Srt keyT a i d ∧ SS wr base g n c B d ∧ (w.alloc (.cells #[.func (.func 27) #[] #[.pointer (some ⟨B, 0, none⟩)], .func (.func sf) #[] #[.slice (some ⟨g, 0, none⟩) n c, th]] 64)).grownBy wr (some g)) (fun e6 _ => b - (intOf e6).toNat)
  case atStart => exact ⟨a + 1, d0, Nat.le_refl _, .inr rfl, by go_num, StM.Stb.refl _ _ _, StM.Srt.one _ _ _ (Nat.le_refl _), HS.out.keep (by (repeat (first | with_reducible exact Below.refl _ _ | with_reducible assumption | with_reducible apply bel_alloc | with_reducible apply bel_drew | with_reducible apply bel_drewN | ((with_reducible refine bel_set ?_ ?_); rotate_left; (simp <;> omega)) | (with_reducible refine bel_trans ?_ (by with_reducible assumption))))), World.grownBy.refl _ _⟩
  case round =>
    obtain ⟨i, d, hi1, hin, rfl, hst, hord, hown, hg⟩ := hrel
    have HST := Lib.hid hst
    have HOR := Lib.hid hord
    have HOW := Lib.hid hown
    have HG := Lib.hid hg
    clear hst hord hown hg
    by_cases hlt : i < b
    · have hiI : (i : Int) < (b : Int) := by omega
      clear hin
      go_wp2
      go_loopw [7] (fun e7 wr => ∃ (j : Nat) (d : Nat → Int), a ≤ j ∧ j ≤ i ∧ e7 = .int .i64 j ∧ StM.Stb keyT a b d0 d ∧ StM.Nr keyT a i j d ∧ SS wr base g n c B d ∧ (w.alloc (.cells #[.func (.func 27) #[] #[.pointer (some ⟨B, 0, none⟩)], .func (.func sf) #[] #[.slice (some ⟨g, 0, none⟩) n c, th]] 64)).grownBy wr (some g)) (fun e7 _ => (intOf e7).toNat)
      case atStart => exact ⟨i, d, by omega, Nat.le_refl _, rfl, HST.out, StM.Nr.start HOR.out, HOW.out, HG.out⟩
      case round =>
        clear HST HOR HOW HG
        obtain ⟨j, d, haj, hji, rfl, hst, hnear, hown, hg⟩ := hrel
        have HST := Lib.hid hst
        have HN := Lib.hid hnear
        have HOW := Lib.hid hown
        have HG := Lib.hid hg
        clear hst hnear hown hg
        by_cases hj0 : a < j
        · obtain ⟨p, hp⟩ : ∃ p, j = p + 1 := ⟨j - 1, by omega⟩
          have hjI : (j : Int) > (a : Int) := by omega
          have hpI : (j : Int) - 1 = (p : Int) := by omega
          have hpw : IntKind.i64.wrap (p : Int) = (p : Int) := Go.IntWalk.i64_in _ (by omega)
          have HP := Lib.hid hp
          have hBB := HBB.out.grown HG.out (fun e => by injection e with e; omega)
          have b0 : wr.cell? ⟨w.heap.size, 0, none⟩ = some (.func (.func 27) #[] #[.pointer (some ⟨B, 0, none⟩)]) := by simpa using hBB.cell 0
          have b1 : wr.cell? ⟨w.heap.size, 1, none⟩ = some (.func (.func sf) #[] #[.slice (some ⟨g, 0, none⟩) n c, th]) := by simpa using hBB.cell 1
          have bl := hBB.lt
          have HBW := Lib.hid hBB
          have hjn : j < n := by omega
          have hpn : p < n := by omega
          have hap : a ≤ p := by omega
          clear hBB hp
          by_cases hbf : keyT (d j) < keyT (d p)
          · have HBF := Lib.hid hbf
            clear hbf
            go_wp2_with fail
            refine (lessT HOW.out hjn hpn true (by rw [decide_eq_true HBF.out])).mono ?_
            rintro e w1 ⟨rfl, hb1⟩
            have hBB1 := HBW.out.below hb1
            have c1 : w1.cell? ⟨w.heap.size, 1, none⟩ = some (.func (.func sf) #[] #[.slice (some ⟨g, 0, none⟩) n c, th]) := by simpa using hBB1.cell 1
            have cl := hBB1.lt
            obtain ⟨w2, hrun, ho2, hg2⟩ := HSW.out w1 d j p (HOW.out.keep hb1) hjn hpn
            have HO2 := Lib.hid ho2
            have HG2 := Lib.hid (hg2 _ (grown_below HG.out hb1))
            have HN2 : Hid (StM.Nr keyT a i p (StM.sw2 d j p)) := HN.out.step HP.out hap hji HBF.out
            have HS2 : Hid (StM.Stb keyT a b d0 (StM.sw2 d j p)) := HST.out.trans (StM.nb2 HP.out HBF.out hap (by omega))
            clear hBB1 ho2 hg2 b0 b1 bl
            go_wp2_with fail
            exact ⟨⟨p, StM.sw2 d j p, by omega, by omega, rfl, HS2.out, HN2.out, HO2.out, HG2.out⟩, by simp [intOf]; omega⟩
          · have HBF := Lib.hid hbf
            clear hbf
            go_wp2_with fail
            refine (lessT HOW.out hjn hpn false (by rw [decide_eq_false HBF.out])).mono ?_
            rintro e w1 ⟨rfl, hb1⟩
            have HO2 : Hid (StM.Srt keyT a (i + 1) d) := HN.out.stop haj hji (.inr ⟨p, HP.out, Nat.le_of_not_lt HBF.out⟩)
            go_wp2_with fail
            exact ⟨⟨i + 1, d, by omega, .inl (by omega), by go_num, HST.out, HO2.out, HOW.out.keep hb1, grown_below HG.out hb1⟩, by simp [intOf]; omega⟩
        · have hja : ¬ (j : Int) > (a : Int) := by omega
          have HO2 : Hid (StM.Srt keyT a (i + 1) d) := HN.out.stop haj hji (.inl (by omega))
          clear hj0
          go_wp2_with fail
          exact ⟨⟨i + 1, d, by omega, .inl (by omega), by go_num, HST.out, HO2.out, HOW.out, HG.out⟩, by simp [intOf]; omega⟩
    · have hiI : ¬ (i : Int) < (b : Int) := by omega
      clear hin
      go_wp2
      go_end0
      exact ⟨rfl, d, HOW.out, grown_allocT HG.out, HST.out, HOR.out.sub (Nat.le_refl _) (by omega)⟩
end Go.Proofs.YtoedmmhiinhljaaDoor

/- The library's stable sort of a slice of ints, with the program's test. -/
namespace Go.Proofs.YtoedmmhiinhljaaDoor
open Go.RowKit Go.Shelf
set_option linter.unusedVariables false
attribute [local go_sem ↓] Go.wp_at_zero Go.wp_at_succ


set_option maxRecDepth 100000 in
set_option maxHeartbeats 12800000 in
theorem stabT (sf : Nat) (th : Value) (base g n c B : Nat) (hsw : SwT sf th base g n c B) (hn : n ≤ 1099511627776) (d0 : Nat → Int) (w : World) (h : SS w base g n c B d0) :
    Calls Tryd.prog 41 #[.agg #[.func (.func 27) #[] #[.pointer (some ⟨B, 0, none⟩)], .func (.func sf) #[] #[.slice (some ⟨g, 0, none⟩) n c, th]], .int .i64 (n : Int)] w (StP w base g n c B fun d' => StM.Stb keyT 0 n d0 d' ∧ StM.Srt keyT 0 n d') := by
  have hgl := h.lt.2
  have HS := Lib.hid (h.keep (bel_alloc (Below.refl _ _) (.cells #[.func (.func 27) #[] #[.pointer (some ⟨B, 0, none⟩)], .func (.func sf) #[] #[.slice (some ⟨g, 0, none⟩) n c, th]] 64)))
  have HSW := Lib.hid hsw
  have HBB := Lib.hid (Blk.new w 64 #[.func (.func 27) #[] #[.pointer (some ⟨B, 0, none⟩)], .func (.func sf) #[] #[.slice (some ⟨g, 0, none⟩) n c, th]])
  obtain ⟨W0, hW0⟩ : ∃ W0, (w.alloc (.cells #[.func (.func 27) #[] #[.pointer (some ⟨B, 0, none⟩)], .func (.func sf) #[] #[.slice (some ⟨g, 0, none⟩) n c, th]] 64)) = W0 := ⟨_, rfl⟩
  rw [hW0] at HS HBB
  have hw0 : w.grownBy W0 (some g) := by rw [← hW0]; exact grown_allocT (World.grownBy.refl _ _)
  have HW0 := Lib.hid hW0
  have HG0 := Lib.hid hw0
  have hneg : some w.heap.size ≠ some g := fun e => by injection e with e; omega
  clear hsw h hW0 hw0
  go_enter Tryd.func41, Tryd.ntmps41
  go_wp2_with fail
  rw [HW0.out]
  go_loopw [5, 6] (fun e5 e6 wr => ∃ (a : Nat) (d : Nat → Int), a ≤ n ∧ 20 ∣ a ∧ e5 = .int .i64 a ∧ e6 = .int .i64 ((a + 20 : Nat) : Int) ∧ StM.Stb keyT 0 n d0 d ∧ StM.Bs keyT 20 n a d ∧ SS wr base g n c B d ∧ W0.grownBy wr (some g)) (fun e5 _ _ => n - (intOf e5).toNat)
  case atStart => exact ⟨0, d0, Nat.zero_le _, Nat.dvd_zero _, rfl, rfl, StM.Stb.refl _ _ _, StM.Bs.zero _ _ _, HS.out, World.grownBy.refl _ _⟩
  case round =>
    obtain ⟨a, d, han, hda, rfl, rfl, hst, hbs, hown, hg⟩ := hrel
    have HDA := Lib.hid hda
    have HST := Lib.hid hst
    have HBS := Lib.hid hbs
    have HOW := Lib.hid hown
    have HG := Lib.hid hg
    clear hda hst hbs hown hg
    obtain ⟨b, hb⟩ : ∃ b, a + 20 = b := ⟨_, rfl⟩
    rw [hb]
    have HB := Lib.hid hb
    have hab : a ≤ b := by omega
    have hbn : b ≤ 2199023255552 := by omega
    have hBB := HBB.out.grown HG.out hneg
    have b0 : wr.cell? ⟨w.heap.size, 0, none⟩ = some (.func (.func 27) #[] #[.pointer (some ⟨B, 0, none⟩)]) := by simpa using hBB.cell 0
    have b1 : wr.cell? ⟨w.heap.size, 1, none⟩ = some (.func (.func sf) #[] #[.slice (some ⟨g, 0, none⟩) n c, th]) := by simpa using hBB.cell 1
    have bl := hBB.lt
    clear hBB hb
    by_cases hlt : b ≤ n
    · have hltI : (b : Int) ≤ (n : Int) := by omega
      go_wp2_with fail
      refine (insT sf th base g n c B HSW.out a b d _ HOW.out hab hlt hn).mono ?_
      rintro e w1 ⟨rfl, d1, hS1, hg1, t1, t2⟩
      have HST1 : Hid (StM.Stb keyT 0 n d0 d1) := HST.out.wide t1 hab hlt
      have HBS1 : Hid (StM.Bs keyT 20 n b d1) := HBS.out.step (by decide) HDA.out (by have := HB.out; omega) (by have := HB.out; omega) t1 t2
      have HS1 := Lib.hid hS1
      have HG1 := Lib.hid (HG.out.trans hg1)
      have HDB : Hid (20 ∣ b) := by show 20 ∣ b; rw [← HB.out]; exact Nat.dvd_add HDA.out (Nat.dvd_refl _)
      clear hS1 hg1 t1 t2
      go_wp2_with fail
      exact ⟨⟨b, d1, hlt, HDB.out, rfl, by go_num, HST1.out, HBS1.out, HS1.out, HG1.out⟩, by have := HB.out; simp [intOf]; omega⟩
    · have hltI : ¬ (b : Int) ≤ (n : Int) := by omega
      go_wp2_with fail
      refine (insT sf th base g n c B HSW.out a n d _ HOW.out han (Nat.le_refl _) hn).mono ?_
      rintro e w1 ⟨rfl, d1, hS1, hg1, t1, t2⟩
      have HST1 : Hid (StM.Stb keyT 0 n d0 d1) := HST.out.wide t1 han (Nat.le_refl _)
      have HBS1 : Hid (StM.Bs keyT 20 n n d1) := HBS.out.step (by decide) HDA.out (by have := HB.out; omega) (by have := HB.out; omega) t1 t2
      have HS1 := Lib.hid hS1
      have HG1 := Lib.hid (HG.out.trans hg1)
      clear hS1 hg1 t1 t2 HST HBS HOW HG b0 b1 bl
      go_wp2_with fail
      go_loopw [4] (fun e4 wq => ∃ (s : Nat) (d : Nat → Int), 20 ≤ s ∧ s ≤ 2199023255552 ∧ e4 = .int .i64 s ∧ StM.Stb keyT 0 n d0 d ∧ StM.Bs keyT s n n d ∧ SS wq base g n c B d ∧ W0.grownBy wq (some g)) (fun e4 _ => n - (intOf e4).toNat)
      case atStart => exact ⟨20, d1, Nat.le_refl _, by omega, rfl, HST1.out, HBS1.out, HS1.out, HG1.out⟩
      case round =>
        clear HST1 HBS1 HS1 HG1 hltI hlt HB HDA hab hbn han
        obtain ⟨s, d2, hs20, hsm, rfl, hst, hbs, hown, hg⟩ := hrel
        have HST := Lib.hid hst
        have HBS := Lib.hid hbs
        have HOW := Lib.hid hown
        have HG := Lib.hid hg
        clear hst hbs hown hg
        by_cases hsn : s < n
        · have hsnI : (s : Int) < (n : Int) := by omega
          obtain ⟨s2, hs2⟩ : ∃ s2, 2 * s = s2 := ⟨_, rfl⟩
          have hs2I : 2 * (s : Int) = (s2 : Int) := by omega
          have hs2J : (s : Int) * 2 = (s2 : Int) := by omega
          have hs2w : IntKind.i64.wrap (s2 : Int) = (s2 : Int) := Go.IntWalk.i64_in _ (by omega)
          have HS2 := Lib.hid hs2
          have hs2m : s2 ≤ 2199023255552 := by omega
          clear hs2
          go_wp2_with fail
          go_loopw [5, 6] (fun e5 e6 wq => ∃ (a : Nat) (d : Nat → Int), a ≤ n ∧ s2 ∣ a ∧ e5 = .int .i64 a ∧ e6 = .int .i64 ((a + s2 : Nat) : Int) ∧ StM.Stb keyT 0 n d0 d ∧ StM.Bs keyT s2 n a d ∧ StM.Rs keyT s n a d ∧ SS wq base g n c B d ∧ W0.grownBy wq (some g)) (fun e5 _ _ => n - (intOf e5).toNat)
          case atStart => exact ⟨0, d2, Nat.zero_le _, Nat.dvd_zero _, rfl, by rw [Nat.zero_add], HST.out, StM.Bs.zero _ _ _, StM.Rs.of HBS.out, HOW.out, HG.out⟩
          case round =>
            clear HST HBS HOW HG
            obtain ⟨a, d, han, hda, rfl, rfl, hst, hbs, hrs, hown, hg⟩ := hrel
            have hda2 : 2 * s ∣ a := by rw [HS2.out]; exact hda
            have HDA := Lib.hid hda
            have HDA2 := Lib.hid hda2
            have HST := Lib.hid hst
            have HBS := Lib.hid hbs
            have HRS := Lib.hid hrs
            have HOW := Lib.hid hown
            have HG := Lib.hid hg
            clear hda hda2 hst hbs hrs hown hg
            obtain ⟨b, hb⟩ : ∃ b, a + s2 = b := ⟨_, rfl⟩
            obtain ⟨m, hm⟩ : ∃ m, a + s = m := ⟨_, rfl⟩
            rw [hb]
            have HB := Lib.hid hb
            have HM := Lib.hid hm
            have hs2e := HS2.out
            have hmI : (a : Int) + (s : Int) = (m : Int) := by omega
            have hmw : IntKind.i64.wrap (m : Int) = (m : Int) := Go.IntWalk.i64_in _ (by omega)
            have ham : a < m := by omega
            have hmb : m < b := by omega
            have hbn : b ≤ 4398046511104 := by omega
            have hBB := HBB.out.grown HG.out hneg
            have b0 : wr.cell? ⟨w.heap.size, 0, none⟩ = some (.func (.func 27) #[] #[.pointer (some ⟨B, 0, none⟩)]) := by simpa using hBB.cell 0
            have b1 : wr.cell? ⟨w.heap.size, 1, none⟩ = some (.func (.func sf) #[] #[.slice (some ⟨g, 0, none⟩) n c, th]) := by simpa using hBB.cell 1
            have bl := hBB.lt
            clear hBB hb hm hs2e
            by_cases hlt : b ≤ n
            · have hltI : (b : Int) ≤ (n : Int) := by omega
              have L1 : Hid (StM.Srt keyT a m d) := by show StM.Srt _ _ _ _; rw [← HM.out]; exact HRS.out.left HDA2.out (by rw [HM.out]; omega) (by omega)
              have L2 : Hid (StM.Srt keyT m b d) := by show StM.Srt _ _ _ _; have h := HRS.out.right (b := b) HDA2.out (by rw [HM.out]; omega) (by have := HB.out; have := HS2.out; omega); rw [HM.out] at h; exact h
              go_wp2_with fail
              refine (symT sf th base g n c B HSW.out hn (b - a) a m b d _ (Nat.le_refl _) HOW.out ham hmb hlt L1.out L2.out).mono ?_
              rintro e w1 ⟨rfl, d3, hS1, hg1, t1, t2⟩
              have HST1 : Hid (StM.Stb keyT 0 n d0 d3) := HST.out.wide t1 (by omega) hlt
              have HBS1 : Hid (StM.Bs keyT s2 n b d3) := HBS.out.step (by omega) HDA.out (by have := HB.out; omega) (by have := HB.out; omega) t1 t2
              have HRS1 : Hid (StM.Rs keyT s n b d3) := HRS.out.step t1 (Nat.le_refl _) (by omega)
              have HS1 := Lib.hid hS1
              have HG1 := Lib.hid (HG.out.trans hg1)
              have HDB : Hid (s2 ∣ b) := by show s2 ∣ b; rw [← HB.out]; exact Nat.dvd_add HDA.out (Nat.dvd_refl _)
              clear hS1 hg1 t1 t2
              go_wp2_with fail
              exact ⟨⟨b, d3, hlt, HDB.out, rfl, by go_num, HST1.out, HBS1.out, HRS1.out, HS1.out, HG1.out⟩, by have := HB.out; simp [intOf]; omega⟩
            · have hltI : ¬ (b : Int) ≤ (n : Int) := by omega
              by_cases hmn : m < n
              · have hmnI : (m : Int) < (n : Int) := by omega
                have L1 : Hid (StM.Srt keyT a m d) := by show StM.Srt _ _ _ _; rw [← HM.out]; exact HRS.out.left HDA2.out (by rw [HM.out]; omega) (by omega)
                have L2 : Hid (StM.Srt keyT m n d) := by show StM.Srt _ _ _ _; have h := HRS.out.right (b := n) HDA2.out (by rw [HM.out]; omega) (by have := HB.out; have := HS2.out; omega); rw [HM.out] at h; exact h
                go_wp2_with fail
                refine (symT sf th base g n c B HSW.out hn (n - a) a m n d _ (Nat.le_refl _) HOW.out ham hmn (Nat.le_refl _) L1.out L2.out).mono ?_
                rintro e w1 ⟨rfl, d3, hS1, hg1, t1, t2⟩
                have HST1 : Hid (StM.Stb keyT 0 n d0 d3) := HST.out.wide t1 (by omega) (Nat.le_refl _)
                have HBS1 : Hid (StM.Bs keyT s2 n n d3) := HBS.out.step (by omega) HDA.out (by have := HB.out; omega) (by have := HB.out; omega) t1 t2
                have HS1 := Lib.hid hS1
                have HG1 := Lib.hid (HG.out.trans hg1)
                clear hS1 hg1 t1 t2
                go_wp2_with fail
                exact ⟨⟨s2, d3, by have := HS2.out; omega, hs2m, rfl, HST1.out, HBS1.out, HS1.out, HG1.out⟩, by have := HS2.out; simp [intOf]; omega⟩
              · have hmnI : ¬ (m : Int) < (n : Int) := by omega
                have HBS1 : Hid (StM.Bs keyT s2 n n d) := by
                  show StM.Bs _ _ _ _ _
                  have h := HBS.out
                  rw [← HS2.out] at h ⊢
                  exact h.last (by omega) HDA2.out (by rw [HM.out]; omega) (fun hl => HRS.out.alone HDA2.out (by rw [HM.out]; omega) hl)
                go_wp2_with fail
                exact ⟨⟨s2, d, by have := HS2.out; omega, hs2m, rfl, HST.out, HBS1.out, HOW.out, HG.out⟩, by have := HS2.out; simp [intOf]; omega⟩
        · have hsnI : ¬ (s : Int) < (n : Int) := by omega
          have HFN : Hid (StM.Srt keyT 0 n d2) := HBS.out.all (by omega)
          go_wp2_with fail
          go_end0
          exact ⟨rfl, d2, HOW.out, HG0.out.trans HG.out, HST.out, HFN.out⟩
end Go.Proofs.YtoedmmhiinhljaaDoor

/-
  DERIVED: THE SHELF's CONTRACTS AT THIS DUMP, IN PLAIN WORDS (tools/lay-plain.mjs out of 'TrydShelf.lean', which tools/lay-shelf.mjs wrote): THE SAME DECLARATIONS UNDER THE SAME NAMES: 'import', 'namespace', 'open', 'def', 'theorem' AND NOTHING ELSE: no command of the shelf's: FOR A HAND-IN. Each laying: the table of numbers ('.._ren') and one theorem, a field a fact of the dump's own or the kernel's comparison; each contract: ONE APPLICATION.
-/
namespace Go.Proofs
open Go.Shelf
def Tryd.laysGt8_ren : Go.Shelf.Ren := ⟨fun | 8 => 26 | 13 => 39 | 14 => 40 | 16 => 42 | 15 => 41 | 29 => 56 | 30 => 57 | 42 => 61 | 49 => 62 | n => n, fun | 20 => 20 | 26 => 46 | 36 => 58 | 0 => 0 | 38 => 60 | 42 => 64 | 3 => 3 | 4 => 4 | 47 => 66 | 17 => 17 | 33 => 55 | 34 => 56 | 89 => 94 | 12 => 12 | 56 => 76 | 82 => 87 | 5 => 5 | 83 => 88 | 84 => 89 | 85 => 90 | 86 => 91 | 87 => 92 | n => n, fun | n => n⟩
theorem Tryd.laysGt8 : Go.Proofs.LaysGt.n8 Tryd.prog Tryd.laysGt8_ren := {
  mixed := by kernel_rfl
  f8 := Tryd.func26.trans (congrArg some (by kernel_rfl))
  f13 := Tryd.func39.trans (congrArg some (by kernel_rfl))
  f14 := Tryd.func40.trans (congrArg some (by kernel_rfl))
  f15 := Tryd.func41.trans (congrArg some (by kernel_rfl))
  f16 := Tryd.func42.trans (congrArg some (by kernel_rfl))
  f29 := Tryd.func56.trans (congrArg some (by kernel_rfl))
  f30 := Tryd.func57.trans (congrArg some (by kernel_rfl))
  f42 := Tryd.func61.trans (congrArg some (by kernel_rfl))
  f49 := Tryd.func62.trans (congrArg some (by kernel_rfl))
  t0 := Tryd.underlying0
  a0 := Tryd.isAgg0
  z0 := Tryd.sizeOf0
  v0 := Tryd.zeroValue0
  i0 := by kernel_rfl
  t3 := Tryd.underlying3
  a3 := Tryd.isAgg3
  z3 := Tryd.sizeOf3
  v3 := Tryd.zeroValue3
  i3 := by kernel_rfl
  t4 := Tryd.underlying4
  a4 := Tryd.isAgg4
  z4 := Tryd.sizeOf4
  v4 := Tryd.zeroValue4
  i4 := by kernel_rfl
  t5 := Tryd.underlying5
  a5 := Tryd.isAgg5
  z5 := Tryd.sizeOf5
  v5 := Tryd.zeroValue5
  i5 := by kernel_rfl
  t12 := Tryd.underlying12
  a12 := Tryd.isAgg12
  z12 := Tryd.sizeOf12
  v12 := Tryd.zeroValue12
  i12 := by kernel_rfl
  t17 := Tryd.underlying17
  a17 := Tryd.isAgg17
  z17 := Tryd.sizeOf17
  v17 := Tryd.zeroValue17
  i17 := by kernel_rfl
  t20 := Tryd.underlying20
  a20 := Tryd.isAgg20
  z20 := Tryd.sizeOf20
  v20 := Tryd.zeroValue20
  i20 := by kernel_rfl
  t26 := Tryd.underlying46
  a26 := Tryd.isAgg46
  z26 := Tryd.sizeOf46
  v26 := Tryd.zeroValue46
  i26 := by kernel_rfl
  t33 := Tryd.underlying55
  a33 := Tryd.isAgg55
  z33 := Tryd.sizeOf55
  v33 := Tryd.zeroValue55
  i33 := by kernel_rfl
  t34 := Tryd.underlying56
  a34 := Tryd.isAgg56
  z34 := Tryd.sizeOf56
  v34 := Tryd.zeroValue56
  i34 := by kernel_rfl
  t36 := Tryd.underlying58
  a36 := Tryd.isAgg58
  z36 := Tryd.sizeOf58
  v36 := Tryd.zeroValue58
  i36 := by kernel_rfl
  t38 := Tryd.underlying60
  a38 := Tryd.isAgg60
  z38 := Tryd.sizeOf60
  v38 := Tryd.zeroValue60
  i38 := by kernel_rfl
  t42 := Tryd.underlying64
  a42 := Tryd.isAgg64
  z42 := Tryd.sizeOf64
  v42 := Tryd.zeroValue64
  i42 := by kernel_rfl
  t47 := Tryd.underlying66
  a47 := Tryd.isAgg66
  z47 := Tryd.sizeOf66
  v47 := Tryd.zeroValue66
  i47 := by kernel_rfl
  t56 := Tryd.underlying76
  a56 := Tryd.isAgg76
  z56 := Tryd.sizeOf76
  v56 := Tryd.zeroValue76
  i56 := by kernel_rfl
  t82 := Tryd.underlying87
  a82 := Tryd.isAgg87
  z82 := Tryd.sizeOf87
  v82 := Tryd.zeroValue87
  i82 := by kernel_rfl
  t83 := Tryd.underlying88
  a83 := Tryd.isAgg88
  z83 := Tryd.sizeOf88
  v83 := Tryd.zeroValue88
  i83 := by kernel_rfl
  t84 := Tryd.underlying89
  a84 := Tryd.isAgg89
  z84 := Tryd.sizeOf89
  v84 := Tryd.zeroValue89
  i84 := by kernel_rfl
  t85 := Tryd.underlying90
  a85 := Tryd.isAgg90
  z85 := Tryd.sizeOf90
  v85 := Tryd.zeroValue90
  i85 := by kernel_rfl
  t86 := Tryd.underlying91
  a86 := Tryd.isAgg91
  z86 := Tryd.sizeOf91
  v86 := Tryd.zeroValue91
  i86 := by kernel_rfl
  t87 := Tryd.underlying92
  a87 := Tryd.isAgg92
  z87 := Tryd.sizeOf92
  v87 := Tryd.zeroValue92
  i87 := by kernel_rfl
  t89 := Tryd.underlying94
  a89 := Tryd.isAgg94
  z89 := Tryd.sizeOf94
  v89 := Tryd.zeroValue94
  i89 := by kernel_rfl }
end Go.Proofs

/- sort.SliceStable, with the program's test. -/
namespace Go.Proofs.YtoedmmhiinhljaaDoor
open Go.RowKit Go.Shelf
set_option linter.unusedVariables false
attribute [local go_sem ↓] Go.wp_at_zero Go.wp_at_succ


noncomputable def tiST : TypeInfo := (Tryd.prog.info? 22).get (by kernel_rfl)
noncomputable def tiIT : TypeInfo := (Tryd.prog.info? 3).get (by kernel_rfl)
theorem swapKT (n : Nat) (h2 : 2 ≤ n) : Lib.swapperK n tiIT 2 = 5 := by
  have a : tiIT.hasPointers = false := by kernel_rfl
  have b : tiIT.bytes = 8 := by kernel_rfl
  have c : (n == 0) = false := by simp; omega
  have d : (n == 1) = false := by simp; omega
  simp [Lib.swapperK, a, b, c, d]
set_option maxRecDepth 100000 in
/-- The library's stable sort of two values or more. -/
theorem sliceT (base g n c B : Nat) (d0 : Nat → Int) (w : World) (h : SS w base g n c B d0) (hn2 : 2 ≤ n) (hn : n ≤ 1099511627776) :
    Calls Tryd.prog 26 #[.iface 22 (.slice (some ⟨g, 0, none⟩) n c), .func (.func 27) #[] #[.pointer (some ⟨B, 0, none⟩)]] w (StP w base g n c B fun d' => StM.Stb keyT 0 n d0 d' ∧ StM.Srt keyT 0 n d') := by
  have hagg : ∀ w, (isAgg 3).run Tryd.prog w = .ok false w := fun _ => by kernel_rfl
  obtain ⟨W, hW⟩ : ∃ W, stableWorld Tryd.prog Tryd.laysGt8_ren 22 (some ⟨g, 0, none⟩) n c w = W := ⟨_, rfl⟩
  have hb : Below w.heap.size w W := by
    rw [← hW]
    unfold stableWorld
    exact bel_alloc (bel_alloc (Below.refl _ _) _) _
  refine (Any.sort_SliceStable_of_stable Tryd.laysGt8 22 3 tiST tiIT (by kernel_rfl) (by kernel_rfl) (by kernel_rfl) (by kernel_rfl) 2 (fun _ => by kernel_rfl) (some ⟨g, 0, none⟩) n c (by omega) 51 (by rw [swapKT n hn2]; kernel_rfl) (.func 27) #[] #[.pointer (some ⟨B, 0, none⟩)] w
      (fun w' => ∃ d', SS w' base g n c B d' ∧ w.grownBy w' (some g) ∧ StM.Stb keyT 0 n d0 d' ∧ StM.Srt keyT 0 n d') ?_).mono (fun e w' h => h)
  have hbd : sliceBound Tryd.prog 3 tiIT 2 (some ⟨g, 0, none⟩) n c = #[.slice (some ⟨g, 0, none⟩) n c, typeHandle Tryd.prog 3] := by
    unfold sliceBound
    rw [swapKT n hn2]
    rfl
  rw [hbd, hW]
  have hx : ∀ args W, (callFunc 51 args).run Tryd.prog W = ((Extern.ReflectliteSwapper.swap true args).run Tryd.prog W).andThen fun v w' => .ok (.value v) w' := fun args W => run_callFunc_extern Tryd.func51 (by kernel_rfl) (by kernel_rfl) (by kernel_rfl) (e := Extern.ReflectliteSwapper.swap true) (by kernel_rfl) args W
  refine (stabT _ _ base g n c B (swapT _ true hx hagg base g n c B) hn d0 W (h.keep hb)).mono ?_
  rintro e w' ⟨rfl, d', h1, h2, h3⟩
  exact ⟨rfl, d', h1, ((⟨hb.os, hb.tape, hb.output, hb.size, fun k hk _ => hb.block k hk⟩ : w.grownBy W (some g))).trans h2, h3⟩
set_option maxRecDepth 100000 in
/-- One value or none. -/
theorem sliceT1 (p : Option Addr) (n c : Nat) (hn : n ≤ 1) (F : Value) (lf : Fn) (lb : Array Value) (hF : F = .func lf #[] lb) (w : World) :
    Calls Tryd.prog 26 #[.iface 22 (.slice p n c), F] w (fun e w' => e = .returned (.tuple #[]) ∧ Below w.heap.size w w') := by
  subst hF
  have hk : ∃ f, Tryd.prog.funcs.findIdx? (·.name == "internal/reflectlite" ++ ".Swapper$" ++ toString (Lib.swapperK n tiIT 2)) = some f := by
    rcases (by omega : n = 0 ∨ n = 1) with rfl | rfl
    · exact ⟨47, by kernel_rfl⟩
    · exact ⟨48, by kernel_rfl⟩
  obtain ⟨f, hf⟩ := hk
  refine (Any.sort_SliceStable_tiny Tryd.laysGt8 22 3 tiST tiIT (by kernel_rfl) (by kernel_rfl) (by kernel_rfl) (by kernel_rfl) 2 (fun _ => by kernel_rfl) p n c hn f hf lf #[] lb w).mono ?_
  rintro e w' ⟨rfl, os, rfl⟩
  exact ⟨rfl, rfl, rfl, rfl, by simp [Sort.grow], fun k hk => by simp [Sort.grow, Array.getElem?_append, hk]⟩
end Go.Proofs.YtoedmmhiinhljaaDoor

/- A region that draws its order and writes what it has read: with a class of one's own. -/
namespace Go.Proofs.YtoedmmhiinhljaaDoor
open Go.RowKit
set_option linter.unusedVariables false
section
variable {P : Program} {ops : Array Oper} {C : World → Prop} {Q : Exit → Act → World → Prop}
theorem wp_region_rgC {id : Nat} {a : Act} {w : World} {l : List Oper} (n : Nat) (hl : l.length = n) (hm : P.follows .mixedOrders = true) (hC : C { w with drawn := w.drawn + 1 }) (h : wpRg P .any l.toArray C (NoPanic Q) n (Array.replicate n false) a w) : (Code.region id l.toArray true).wp P Q a w := by
  subst hl
  exact wp_region_noPanic (wp_region_any hm (wpAny_of_wpRg _ _ _ _ hC (wpRg_ext h (ExC.drawn w))))
/-- An operation that only reads what the class keeps is taken first. -/
theorem rgTC (hCE : ∀ w w', C w → Ext w w' → C w') {i d : Nat} {oi : Oper} {v : Value} {f : Nat} {listed : Array Bool} {ts : Array Value} {ds : List Deferred} {w : World} (hi : ops[i]? = some oi) (hd : oi.dst = some d)
    (hs : Region.noSelect ops = true) (hf : Region.free .any ops listed i = true) (hr : (Region.ready .any ops listed).contains i = true) (hw : Region.wanted oi (yielded ops ts) = true)
    (hy : ∀ w', C w' → oi.quietAt P { tmps := ts, defers := ds } (Ext w') w' v)
    (h : wpRg P .any ops C (NoPanic Q) f (listed.setIfInBounds i true) { tmps := ts.setIfInBounds d v, defers := ds } w) : wpRg P .any ops C (NoPanic Q) (f + 1) listed { tmps := ts, defers := ds } w :=
  wpRg_first hCE hi (Region.noSelect_spec hs) (fun _ _ _ h => h) f listed _ w (Region.free_spec hi hf) (by simpa using hr) (.inl ⟨hw, hy⟩) (by rw [hd]; exact h)
end
section
variable (w : World) {ops : Array Oper} {o : Oper} {a : Act} {Q : Exit → Act → World → Prop}
theorem wpN (s x : Operand) {K : Act → World → Prop} (ho : o.op = .call { callee := .builtin .append, args := #[s, x], argTypes := #[22, 22] })
    (base : Nat) (A : Option Addr) (n c : Nat) (l : List Int) (hs : a.eval s = .slice A n c) (hown : w.ownsRow base 3 1 (.slice A n c) n (vI l))
    (A2 : Option Addr) (m c2 : Nat) (l2 : List Int) (hx : a.eval x = .slice A2 m c2) (hr : Rd w A2 (vI l2)) (hl : l2.length = m) (hb : n + m ≤ 1099511627776) (hbase : base ≤ w.heap.size)
    (h : ∀ A' c' w', w'.ownsRow base 3 1 (.slice A' (n + m) c') (n + m) (vI (l ++ l2)) → w.grownBy w' (ob A) → (ob A' = ob A ∨ ob A' = some w.heap.size) → K (a.put o.dst (.slice A' (n + m) c')) w') :
    o.wp Tryd.prog a w K Q := by
  obtain ⟨i0, hi, hz0, hz1, hz2⟩ := info_parts infoI
  refine wp_app w s x _ ho base _ i0 _ 1 8 Tryd.underlying22 hi hz0 hz1 hz2 rfl (by omega) A n c _ hs hown A2 m c2 _ hx hr (by rw [vI_length, hl]; omega) (vI_one _) (by unfold maxLen; omega) (by omega) hbase ?_
  intro A' c' w' h1
  rw [← vI_append] at h1
  exact h A' c' w' h1
end
end Go.Proofs.YtoedmmhiinhljaaDoor

/- A tiling turned: the program's TurnTiling. -/
namespace Go.Proofs.YtoedmmhiinhljaaDoor
open Go.RowKit
set_option linter.unusedVariables false
attribute [local go_sem ↓] Go.wp_at_zero Go.wp_at_succ


theorem sg_list : ∀ (L : List Int), StM.sg (fun j => L.getD j 0) 0 L.length = L := by
  intro L
  apply List.ext_getElem?
  intro k
  by_cases hk : k < L.length
  · rw [StM.sg_get _ _ _ _ hk, Nat.zero_add, List.getD_eq_getElem?_getD, List.getElem?_eq_getElem hk]
    rfl
  · rw [List.getElem?_eq_none (by rw [StM.sg_len]; omega), List.getElem?_eq_none (by omega)]
/-- The list that the program has made is put in order, whatever its length. -/
theorem sortT (base bx k c : Nat) (o : Option Addr) (L : List Int) (w : World) (hk : L.length = k) (hkm : k ≤ 1048576) (ho : w.ownsRow base 3 1 (.slice o k c) k (vI L)) (hb : Blk w bx 22 #[.slice o k c]) (hbx : bx < base) (hT : Tb w) (htb : 1 < base) (hL : ∀ x ∈ L, 0 ≤ x ∧ x < 2 ^ 62) :
    Calls Tryd.prog 26 #[.iface 22 (.slice o k c), .func (.func 27) #[] #[.pointer (some ⟨bx, 0, none⟩)]] w
      (fun e w' => e = .returned (.tuple #[]) ∧ w'.ownsRow base 3 1 (.slice o k c) k (vI (StM.stS keyT L)) ∧ Blk w' bx 22 #[.slice o k c] ∧ w.grownBy w' (ob o)) := by
  by_cases h2 : 2 ≤ k
  · obtain ⟨g, rfl, hg1, hg2⟩ := own_at ho (by omega)
    have hS : SS w base g k c bx (fun j => L.getD j 0) := ⟨by rw [← hk, sg_list, hk]; exact ho, by simpa using hb.cell 0, by omega, hT, htb, fun j hj => by
      have hjl : j < L.length := by omega
      rw [List.getD_eq_getElem?_getD, List.getElem?_eq_getElem hjl]
      exact hL _ (List.getElem_mem hjl)⟩
    refine (sliceT base g k c bx _ w hS h2 (by omega)).mono ?_
    rintro e w' ⟨rfl, d', h3, h4, h5, h6⟩
    have he := StM.stb_eq h5 h6
    rw [← hk, sg_list] at he
    have ho' := h3.own
    rw [← hk, he, hk] at ho'
    exact ⟨rfl, ho', hb.grown h4 (fun e => by injection e with e; omega), h4⟩
  · refine (sliceT1 o k c (by omega) _ _ _ rfl w).mono ?_
    rintro e w' ⟨rfl, hbel⟩
    have he : StM.stS keyT L = L := by
      rcases (by omega : k = 0 ∨ k = 1) with h | h
      · rw [List.eq_nil_of_length_eq_zero (by omega : L.length = 0)]; rfl
      · obtain ⟨x, rfl⟩ := List.length_eq_one_iff.1 (hk.trans h)
        rfl
    rw [he]
    exact ⟨rfl, own_keep ho hbel, hb.below hbel, ⟨hbel.os, hbel.tape, hbel.output, hbel.size, fun j hj _ => hbel.block j hj⟩⟩
set_option maxRecDepth 100000 in
set_option maxHeartbeats 6400000 in
theorem TurnTiling_i (W : Int) (A : Option Addr) (n c : Nat) (D : Option Addr) (k cd : Nat) (rows l : List Int) (m : Int) (w : World) (hr : Rd w A (vI rows)) (hl : rows.length = n) (hrI : Rd w D (vI l)) (hlI : l.length = k) (hx : ∀ x ∈ l, x < 9223372036854775808) (hk : k ≤ 1048576) (hT : Tb w) :
    Calls Tryd.prog 9 #[.agg #[.int .i64 W, .slice A n c], .slice D k cd, .int .i64 m] w (RetS2 w 3 1 (vI (ttV W rows l m)) (.bool (ttOk W rows l m))) := by
  have HL := Lib.hid hl
  have HR := Lib.hid hr
  have HRI := Lib.hid hrI
  have HLI := Lib.hid hlI
  have HX := Lib.hid hx
  have HT := Lib.hid hT
  have htb := World.block_lt_of_cell? w _ (hT 0 (by decide))
  have HTBL : Hid (1 < w.heap.size) := htb
  have hml := motV_len W rows
  have HB0 := Lib.hid (Blk.new w 28 #[.int .i64 W, .slice A n c])
  have hnil : ∀ u : World, Below w.heap.size w u → ttOk W rows l m = false → RetS2 w 3 1 (vI (ttV W rows l m)) (.bool (ttOk W rows l m)) (.returned (.tuple #[.slice none 0 0, .bool false])) u := fun u hb h => ⟨none, 0, 0, by rw [h], by rw [ttV_no h]; exact own_nil _ _ _ _, hb⟩
  have HNIL := Lib.hid hnil
  clear hr hl hrI hlI hx hT hnil htb
  cases ha : (motV W rows).any (· == m) with
  | false =>
    have HA := Lib.hid ha
    have HTO : Hid (ttOk W rows l m = false) := by show _ = _; unfold ttOk; rw [ha]; rfl
    clear ha
    go_enter Tryd.func9, Tryd.ntmps9
    go_wp2_with fail
    refine (RegionMotions_i _ _ _ _ rows _ (HR.out.alloc _) HL.out).mono ?_
    rintro e w1 ⟨B, q, cq, rfl, ho, hb1⟩
    have hq : (motV W rows).length = q := by have := own_len ho; rw [vI_length] at this; omega
    have HQ := Lib.hid hq
    have hq8 : q ≤ 1099511627776 := by omega
    clear hq hml
    go_wp2_with fail
    refine (hasInt_i _ _ _ _ m _ (Rd.of_own ho) HQ.out hq8).mono ?_
    rw [HA.out]
    rintro e w2 ⟨rfl, hb2⟩
    go_wp2_with fail
    go_ret2
    exact HNIL.out _ (by (repeat (first | with_reducible exact Below.refl _ _ | with_reducible assumption | with_reducible apply bel_alloc | with_reducible apply bel_drew | with_reducible apply bel_drewN | ((with_reducible refine bel_set ?_ ?_); rotate_left; (simp <;> omega)) | (with_reducible refine bel_trans ?_ (by with_reducible assumption))))) HTO.out
  | true =>
    obtain ⟨hv, k', hk8, rfl, hg⟩ := motV_any ha
    have HA := Lib.hid ha
    have HV := Lib.hid hv
    obtain ⟨n0, rfl, hn1, hn6, hh1, hh6, _⟩ := isReg_yes hv
    rw [HL.out] at hh1 hh6 hg
    rw [Int.toNat_natCast] at hg
    have HG0 : Hid (goesM n0 n k' = true) := hg
    clear ha hv hg
    go_enter Tryd.func9, Tryd.ntmps9
    go_wp2_with fail
    refine (RegionMotions_i _ _ _ _ rows _ (HR.out.alloc _) HL.out).mono ?_
    rintro e w1 ⟨B, q, cq, rfl, ho, hb1⟩
    have hq : (motV (n0 : Int) rows).length = q := by have := own_len ho; rw [vI_length] at this; omega
    have HQ := Lib.hid hq
    have hq8 : q ≤ 1099511627776 := by omega
    clear hq hml
    go_wp2_with fail
    refine (hasInt_i _ _ _ _ (k' : Int) _ (Rd.of_own ho) HQ.out hq8).mono ?_
    rw [HA.out]
    rintro e w2 ⟨rfl, hb2⟩
    have hb2q : Below w.heap.size w w2 := (by (repeat (first | with_reducible exact Below.refl _ _ | with_reducible assumption | with_reducible apply bel_alloc | with_reducible apply bel_drew | with_reducible apply bel_drewN | ((with_reducible refine bel_set ?_ ?_); rotate_left; (simp <;> omega)) | (with_reducible refine bel_trans ?_ (by with_reducible assumption)))))
    have HB2 := Lib.hid hb2q
    have HBX := Lib.hid ((HB0.out.below hb1).below hb2)
    have HBO := Lib.hid (Blk.new w2 22 #[.slice none 0 0])
    have HBX2 := Lib.hid (HBX.out.alloc (.cells #[.slice none 0 0] 22))
    have HB3 := Lib.hid (bel_alloc HB2.out (.cells #[.slice none 0 0] 22))
    have hbl0 := HBX.out.lt
    have hON := own_nil (w2.alloc (.cells #[.slice none 0 0] 22)) (w2.heap.size + 1) 3 1
    have HON := Lib.hid hON
    clear ho hb1 hb2 hb2q hON
    go_wp2_with fail
    go_loopw [18] (fun e18 wr => ∃ (i co : Nat) (o : Option Addr), i ≤ k ∧ e18 = .int .i64 i ∧ Blk wr w2.heap.size 22 #[.slice o i co] ∧ wr.ownsRow (w2.heap.size + 1) 3 1 (.slice o i co) i (vI ((l.take i).map fun x => tmV n0 rows x k')) ∧ (∀ x ∈ l.take i, okMask n0 rows x = true) ∧ Blk wr w.heap.size 28 #[.int .i64 (n0 : Int), .slice A n c] ∧ Below w.heap.size w wr ∧ w2.heap.size + 1 ≤ wr.heap.size) (fun e18 _ => k - (intOf e18).toNat)
    case atStart => exact ⟨0, 0, none, Nat.zero_le _, rfl, HBO.out, by simpa [vI] using HON.out, (fun x h => by simp at h), HBX2.out, HB3.out, by simp⟩
    case round =>
      obtain ⟨i, co, o, hik, rfl, hbo, hown, hall, hbox, hb, hsz⟩ := hrel
      have HBOW := Lib.hid hbo
      have HOW := Lib.hid hown
      have HALL := Lib.hid hall
      have HBXW := Lib.hid hbox
      have HB := Lib.hid hb
      have b0 : wr.cell? ⟨w.heap.size, 0, none⟩ = some (.int .i64 (n0 : Int)) := by simpa using hbox.cell 0
      have b1 : wr.cell? ⟨w.heap.size, 1, none⟩ = some (.slice A n c) := by simpa using hbox.cell 1
      have bl := hbox.lt
      have o0 : wr.cell? ⟨w2.heap.size, 0, none⟩ = some (.slice o i co) := by simpa using hbo.cell 0
      have ol := hbo.lt
      have of_ : wr.frozen? ⟨w2.heap.size, 0, none⟩ = false := hbo.frozen 0
      clear hbo hown hall hbox hb
      by_cases hlt : i < k
      · have hi0 : (0 : Int) ≤ (i : Int) := by omega
        have hi1 : (i : Int) < (k : Int) := by omega
        have hil : i < l.length := by rw [HLI.out]; exact hlt
        obtain ⟨gl, off, hA, hgl2, d1⟩ := RdI.at_ (HRI.out.below HB.out) hil
        have hmap := map_take_succ (fun x => tmV n0 rows x k') hil
        have hals := fun h2 => all_take_succ (P := fun x => okMask n0 rows x = true) hil HALL.out h2
        obtain ⟨x, hx⟩ : ∃ x, l[i] = x := ⟨_, rfl⟩
        have hxm : x ∈ l := by rw [← hx]; exact List.getElem_mem hil
        rw [hx] at d1 hmap hals
        have HMAP := Lib.hid hmap
        have HALS := Lib.hid hals
        have HXM := Lib.hid hxm
        have hx63 := HX.out x hxm
        obtain ⟨tk, htk⟩ : ∃ tk, okMask n0 rows x = tk := ⟨_, rfl⟩
        have HIM : Hid (∀ w', Below wr.heap.size wr w' → Calls Tryd.prog 24 #[.agg #[.int .i64 (n0 : Int), .slice A n c], .int .i64 x] w' (Ret w' (.bool tk))) := fun w' hb' => by rw [← htk]; exact isMask_i n0 A n c rows x w' ((HR.out.below HB.out).below hb') HL.out HV.out hx63
        have HTK := Lib.hid htk
        clear hx hxm hx63 hil hmap hals htk
        subst hA
        cases tk with
        | false =>
          have HTO : Hid (ttOk n0 rows l k' = false) := ttOk_no HXM.out (by unfold tmOk; rw [HTK.out, Bool.and_false])
          go_wp2_with fail
          refine (HIM.out _ (Below.refl _ _)).mono ?_
          rintro e w3 ⟨rfl, hb3⟩
          have hbz := bel_trans HB.out hb3
          go_wp2_with fail
          go_ret2
          exact HNIL.out _ hbz HTO.out
        | true =>
          have HAL2 := Lib.hid (HALS.out HTK.out)
          have hok := HTK.out
          unfold okMask at hok
          rw [Bool.and_eq_true, decide_eq_true_eq] at hok
          obtain ⟨hx0, hin⟩ := hok
          obtain ⟨q0, rfl⟩ : ∃ q : Nat, x = (q : Int) := ⟨x.toNat, by omega⟩
          have hlt2 := inM_lt hin (maskV_lt2 HV.out)
          rw [Int.toNat_natCast, Int.toNat_natCast, HL.out] at hlt2
          have HLT : Hid (q0 < 2 ^ (n0 * n)) := hlt2
          have htv : tmV n0 rows q0 k' = ((turnTo n0 n k' q0 (n0 * n) : Nat) : Int) := by
            unfold tmV
            rw [tmOk_eq HA.out, HTK.out, HL.out]
            rfl
          obtain ⟨tv, htv2⟩ : ∃ tv, tmV n0 rows q0 k' = tv := ⟨_, rfl⟩
          have HCM : Hid (∀ w', Below wr.heap.size wr w' → Calls Tryd.prog 25 #[.agg #[.int .i64 (n0 : Int), .slice A n c], .int .i64 (q0 : Int), .int .i64 (k' : Int)] w' (Ret w' (.int .i64 tv))) := fun w' hb' => by rw [← htv2, htv]; exact carryMask_i n0 A n c rows q0 k' w' ((HR.out.below HB.out).below hb') HL.out ⟨hn1, hn6⟩ ⟨hh1, hh6⟩ hk8 HG0.out HLT.out
          have hmp := HMAP.out
          rw [htv2] at hmp
          have HMAP := Lib.hid hmp
          clear hx0 hin hlt2 htv htv2 hmp HALS
          go_wp2_with fail
          refine (HIM.out _ (Below.refl _ _)).mono ?_
          rintro e w3 ⟨rfl, hb3⟩
          have HB3 := Lib.hid hb3
          have hbx3 := HBXW.out.below hb3
          have hbo3 := HBOW.out.below hb3
          clear b0 b1 bl o0 ol of_ d1 hb3
          have b0 : w3.cell? ⟨w.heap.size, 0, none⟩ = some (.int .i64 (n0 : Int)) := by simpa using hbx3.cell 0
          have b1 : w3.cell? ⟨w.heap.size, 1, none⟩ = some (.slice A n c) := by simpa using hbx3.cell 1
          have bl := hbx3.lt
          have o0 : w3.cell? ⟨w2.heap.size, 0, none⟩ = some (.slice o i co) := by simpa using hbo3.cell 0
          have ol := hbo3.lt
          clear hbx3 hbo3
          go_wp2_with fail
          have HBO3 := Lib.hid (HBOW.out.below HB3.out)
          refine wp_region_rgC (C := (fun z : World => Blk z w.heap.size 28 #[.int .i64 (n0 : Int), .slice A n c])) 8 rfl (by kernel_rfl) (HBXW.out.below (bel_trans HB3.out (ExC.drawn _))) ?_
          refine rgTC (fun _ _ h k => Blk.below h k) (i := 1) (v := ?_) rfl rfl (by kernel_rfl) (by kernel_rfl) (by kernel_rfl) (by rfl) (fun w' hcw => ?_) ?_; rotate_left; (have r0 : w'.cell? ⟨w.heap.size, 0, none⟩ = some (.int .i64 (n0 : Int)) := (by simpa using Blk.cell hcw 0); have r1 : w'.cell? ⟨w.heap.size, 1, none⟩ = some (.slice A n c) := (by simpa using Blk.cell hcw 1); have rl := Blk.lt hcw; go_simp; first | done | with_reducible rfl); simp only [List.setIfInBounds_toArray, List.set_cons_zero, List.set_cons_succ]
          refine rgTC (fun _ _ h k => Blk.below h k) (i := 2) (v := ?_) rfl rfl (by kernel_rfl) (by kernel_rfl) (by kernel_rfl) (by rfl) (fun w' hcw => ?_) ?_; rotate_left; (go_simp; first | done | with_reducible rfl); simp only [List.setIfInBounds_toArray, List.set_cons_zero, List.set_cons_succ]
          refine rgTC (fun _ _ h k => Blk.below h k) (i := 3) (v := ?_) rfl rfl (by kernel_rfl) (by kernel_rfl) (by kernel_rfl) (by rfl) (fun w' hcw => ?_) ?_; rotate_left; (go_simp; first | done | with_reducible rfl); simp only [List.setIfInBounds_toArray, List.set_cons_zero, List.set_cons_succ]
          clear b0 b1 bl o0 ol
          refine rgK_two (i := 0) (k := 4) (by kernel_rfl) rfl rfl rfl rfl (fun x0 hc_x0 he_x0 K hK => ?_) (fun x4 hc_x4 he_x4 K hK => ?_)
          · have hqx0 : Below w3.heap.size w3 x0 := bel_trans (Below.refl _ _) he_x0
            have z0 : x0.cell? ⟨w2.heap.size, 0, none⟩ = some (.slice o i co) := by simpa using (HBO3.out.below hqx0).cell 0
            have zl := (HBO3.out.below hqx0).lt
            go_simp
            refine hK _ _ hc_x0 ?_
            clear hK K z0 zl
            (try simp only [List.setIfInBounds_toArray, List.set_cons_zero, List.set_cons_succ])
            refine rgK_one (i := 4) (by kernel_rfl) rfl rfl (fun x4 hc_x4 he_x4 K hK => ?_)
            have hqx4 : Below w3.heap.size w3 x4 := bel_trans hqx0 he_x4
            go_simp
            refine (HCM.out _ (bel_trans HB3.out hqx4)).mono ?_
            rintro e v4 ⟨rfl, hbv4⟩
            have hqv4 := bel_trans hqx4 hbv4
            refine hK _ _ (Blk.below hc_x4 hbv4) ?_
            clear hK K
            (try simp only [Act.put])
            (try simp only [List.setIfInBounds_toArray, List.set_cons_zero, List.set_cons_succ])
            refine rgK_one (i := 5) (by kernel_rfl) rfl rfl (fun x5 hc_x5 he_x5 K hK => ?_)
            have hqx5 : Below w3.heap.size w3 x5 := bel_trans hqv4 he_x5
            go_simp
            refine hK _ _ (Blk.alloc hc_x5 _) ?_
            clear hK K
            (try simp only [List.setIfInBounds_toArray, List.set_cons_zero, List.set_cons_succ])
            have hnx5 : Rd (x5.alloc (.cells #[.int .i64 tv] 3)) (some ⟨x5.heap.size, 0, none⟩) (vI [tv]) := rd_newI _ _ _
            have hqa : Below w3.heap.size w3 (x5.alloc (.cells #[.int .i64 tv] 3)) := bel_alloc hqx5 _
            refine rgK_one (i := 6) (by kernel_rfl) rfl rfl (fun x6 hc_x6 he_x6 K hK => ?_)
            have hq6 : Below w3.heap.size w3 x6 := bel_trans hqa he_x6
            refine wpN _ _ _ rfl (w2.heap.size + 1) o i co ((l.take i).map fun x => tmV n0 rows x k') rfl (own_keep HOW.out (bel_trans HB3.out hq6)) (some ⟨x5.heap.size, 0, none⟩) 1 1 [tv] rfl (hnx5.below he_x6) rfl (by omega) (by have h1 := HB3.out.size; have h2 := hq6.size; omega) ?_
            intro D6 c6 w6 ho6 hg6 hat6
            have hbo6 := (HBO3.out.below hq6).grown hg6 (fun e => by have := (own_lt HOW.out _ e.symm).1; omega)
            refine hK _ _ (Blk.grown hc_x6 hg6 (fun e => by have := (own_lt HOW.out _ e.symm).1; omega)) ?_
            clear hK K
            (try simp only [List.setIfInBounds_toArray, List.set_cons_zero, List.set_cons_succ])
            (try simp only [Act.put])
            (try simp only [List.setIfInBounds_toArray, List.set_cons_zero, List.set_cons_succ])
            refine rgK_one (i := 7) (by kernel_rfl) rfl rfl (fun x7 hc_x7 he_x7 K hK => ?_)
            have hbo7 := hbo6.below he_x7
            have z0 : x7.cell? ⟨w2.heap.size, 0, none⟩ = some (.slice o i co) := by simpa using hbo7.cell 0
            have zf : x7.frozen? ⟨w2.heap.size, 0, none⟩ = false := hbo7.frozen 0
            have zl := hbo7.lt
            go_simp
            refine hK _ _ (Blk.far hc_x7 (p := ⟨w2.heap.size, 0, none⟩) (by show w.heap.size ≠ w2.heap.size; omega) _) ?_
            clear hK K
            (try simp only [List.setIfInBounds_toArray, List.set_cons_zero, List.set_cons_succ])
            refine ⟨by kernel_rfl, fun wz hcz hez => NoPanic.normal ?_⟩
            have e1 : i + 1 = i + 1 := rfl
            have HBOZ := Lib.hid ((hbo7.set_ 0 (.slice D6 (i + 1) c6)).below hez)
            have HOWZ := Lib.hid (own_keep (own_set (own_keep ho6 he_x7) (p := ⟨w2.heap.size, 0, none⟩) (fun g e => by have h9 := (own_lt ho6 g e).1; show g ≠ w2.heap.size; omega) (.slice D6 (i + 1) c6)) hez)
            have hbz : Below w.heap.size w wz := bel_trans (bel_set (bel_trans (bel_app (bel_trans HB.out (bel_trans HB3.out hq6)) hg6 (fun g e => by have := (own_lt HOW.out g e).1; omega)) he_x7) (by show w.heap.size ≤ w2.heap.size; omega)) hez
            have HBZ := Lib.hid hbz
            have HSZ := Lib.hid (show w2.heap.size + 1 ≤ wz.heap.size by have h1 := hez.size; have h2 := he_x7.size; have h3 := hg6.size; have h4 := hq6.size; have h5 := HB3.out.size; simp only [World.size_setCell] at h1; omega)
            have HCZ := Lib.hid hcz
            clear hcz hez hbz hbo6 hbo7 z0 zf zl
            go_wp2_with fail
            exact ⟨⟨i + 1, c6, D6, by omega, by go_num, HBOZ.out, by rw [HMAP.out]; exact HOWZ.out, HAL2.out, HCZ.out, HBZ.out, HSZ.out⟩, by simp [intOf]; omega⟩
          · have hqx4 : Below w3.heap.size w3 x4 := bel_trans (Below.refl _ _) he_x4
            go_simp
            refine (HCM.out _ (bel_trans HB3.out hqx4)).mono ?_
            rintro e v4 ⟨rfl, hbv4⟩
            have hqv4 := bel_trans hqx4 hbv4
            refine hK _ _ (Blk.below hc_x4 hbv4) ?_
            clear hK K
            (try simp only [Act.put])
            (try simp only [List.setIfInBounds_toArray, List.set_cons_zero, List.set_cons_succ])
            refine rgK_two (i := 0) (k := 5) (by kernel_rfl) rfl rfl rfl rfl (fun x0 hc_x0 he_x0 K hK => ?_) (fun x5 hc_x5 he_x5 K hK => ?_)
            · have hqx0 : Below w3.heap.size w3 x0 := bel_trans hqv4 he_x0
              have z0 : x0.cell? ⟨w2.heap.size, 0, none⟩ = some (.slice o i co) := by simpa using (HBO3.out.below hqx0).cell 0
              have zl := (HBO3.out.below hqx0).lt
              go_simp
              refine hK _ _ hc_x0 ?_
              clear hK K z0 zl
              (try simp only [List.setIfInBounds_toArray, List.set_cons_zero, List.set_cons_succ])
              refine rgK_one (i := 5) (by kernel_rfl) rfl rfl (fun x5 hc_x5 he_x5 K hK => ?_)
              have hqx5 : Below w3.heap.size w3 x5 := bel_trans hqx0 he_x5
              go_simp
              refine hK _ _ (Blk.alloc hc_x5 _) ?_
              clear hK K
              (try simp only [List.setIfInBounds_toArray, List.set_cons_zero, List.set_cons_succ])
              have hnx5 : Rd (x5.alloc (.cells #[.int .i64 tv] 3)) (some ⟨x5.heap.size, 0, none⟩) (vI [tv]) := rd_newI _ _ _
              have hqa : Below w3.heap.size w3 (x5.alloc (.cells #[.int .i64 tv] 3)) := bel_alloc hqx5 _
              refine rgK_one (i := 6) (by kernel_rfl) rfl rfl (fun x6 hc_x6 he_x6 K hK => ?_)
              have hq6 : Below w3.heap.size w3 x6 := bel_trans hqa he_x6
              refine wpN _ _ _ rfl (w2.heap.size + 1) o i co ((l.take i).map fun x => tmV n0 rows x k') rfl (own_keep HOW.out (bel_trans HB3.out hq6)) (some ⟨x5.heap.size, 0, none⟩) 1 1 [tv] rfl (hnx5.below he_x6) rfl (by omega) (by have h1 := HB3.out.size; have h2 := hq6.size; omega) ?_
              intro D6 c6 w6 ho6 hg6 hat6
              have hbo6 := (HBO3.out.below hq6).grown hg6 (fun e => by have := (own_lt HOW.out _ e.symm).1; omega)
              refine hK _ _ (Blk.grown hc_x6 hg6 (fun e => by have := (own_lt HOW.out _ e.symm).1; omega)) ?_
              clear hK K
              (try simp only [List.setIfInBounds_toArray, List.set_cons_zero, List.set_cons_succ])
              (try simp only [Act.put])
              (try simp only [List.setIfInBounds_toArray, List.set_cons_zero, List.set_cons_succ])
              refine rgK_one (i := 7) (by kernel_rfl) rfl rfl (fun x7 hc_x7 he_x7 K hK => ?_)
              have hbo7 := hbo6.below he_x7
              have z0 : x7.cell? ⟨w2.heap.size, 0, none⟩ = some (.slice o i co) := by simpa using hbo7.cell 0
              have zf : x7.frozen? ⟨w2.heap.size, 0, none⟩ = false := hbo7.frozen 0
              have zl := hbo7.lt
              go_simp
              refine hK _ _ (Blk.far hc_x7 (p := ⟨w2.heap.size, 0, none⟩) (by show w.heap.size ≠ w2.heap.size; omega) _) ?_
              clear hK K
              (try simp only [List.setIfInBounds_toArray, List.set_cons_zero, List.set_cons_succ])
              refine ⟨by kernel_rfl, fun wz hcz hez => NoPanic.normal ?_⟩
              have e1 : i + 1 = i + 1 := rfl
              have HBOZ := Lib.hid ((hbo7.set_ 0 (.slice D6 (i + 1) c6)).below hez)
              have HOWZ := Lib.hid (own_keep (own_set (own_keep ho6 he_x7) (p := ⟨w2.heap.size, 0, none⟩) (fun g e => by have h9 := (own_lt ho6 g e).1; show g ≠ w2.heap.size; omega) (.slice D6 (i + 1) c6)) hez)
              have hbz : Below w.heap.size w wz := bel_trans (bel_set (bel_trans (bel_app (bel_trans HB.out (bel_trans HB3.out hq6)) hg6 (fun g e => by have := (own_lt HOW.out g e).1; omega)) he_x7) (by show w.heap.size ≤ w2.heap.size; omega)) hez
              have HBZ := Lib.hid hbz
              have HSZ := Lib.hid (show w2.heap.size + 1 ≤ wz.heap.size by have h1 := hez.size; have h2 := he_x7.size; have h3 := hg6.size; have h4 := hq6.size; have h5 := HB3.out.size; simp only [World.size_setCell] at h1; omega)
              have HCZ := Lib.hid hcz
              clear hcz hez hbz hbo6 hbo7 z0 zf zl
              go_wp2_with fail
              exact ⟨⟨i + 1, c6, D6, by omega, by go_num, HBOZ.out, by rw [HMAP.out]; exact HOWZ.out, HAL2.out, HCZ.out, HBZ.out, HSZ.out⟩, by simp [intOf]; omega⟩
            · have hqx5 : Below w3.heap.size w3 x5 := bel_trans hqv4 he_x5
              go_simp
              refine hK _ _ (Blk.alloc hc_x5 _) ?_
              clear hK K
              (try simp only [List.setIfInBounds_toArray, List.set_cons_zero, List.set_cons_succ])
              have hnx5 : Rd (x5.alloc (.cells #[.int .i64 tv] 3)) (some ⟨x5.heap.size, 0, none⟩) (vI [tv]) := rd_newI _ _ _
              have hqa : Below w3.heap.size w3 (x5.alloc (.cells #[.int .i64 tv] 3)) := bel_alloc hqx5 _
              refine rgK_one (i := 0) (by kernel_rfl) rfl rfl (fun x0 hc_x0 he_x0 K hK => ?_)
              have hqx0 : Below w3.heap.size w3 x0 := bel_trans hqa he_x0
              have z0 : x0.cell? ⟨w2.heap.size, 0, none⟩ = some (.slice o i co) := by simpa using (HBO3.out.below hqx0).cell 0
              have zl := (HBO3.out.below hqx0).lt
              go_simp
              refine hK _ _ hc_x0 ?_
              clear hK K z0 zl
              (try simp only [List.setIfInBounds_toArray, List.set_cons_zero, List.set_cons_succ])
              refine rgK_one (i := 6) (by kernel_rfl) rfl rfl (fun x6 hc_x6 he_x6 K hK => ?_)
              have hq6 : Below w3.heap.size w3 x6 := bel_trans hqx0 he_x6
              refine wpN _ _ _ rfl (w2.heap.size + 1) o i co ((l.take i).map fun x => tmV n0 rows x k') rfl (own_keep HOW.out (bel_trans HB3.out hq6)) (some ⟨x5.heap.size, 0, none⟩) 1 1 [tv] rfl ((hnx5.below he_x0).below he_x6) rfl (by omega) (by have h1 := HB3.out.size; have h2 := hq6.size; omega) ?_
              intro D6 c6 w6 ho6 hg6 hat6
              have hbo6 := (HBO3.out.below hq6).grown hg6 (fun e => by have := (own_lt HOW.out _ e.symm).1; omega)
              refine hK _ _ (Blk.grown hc_x6 hg6 (fun e => by have := (own_lt HOW.out _ e.symm).1; omega)) ?_
              clear hK K
              (try simp only [List.setIfInBounds_toArray, List.set_cons_zero, List.set_cons_succ])
              (try simp only [Act.put])
              (try simp only [List.setIfInBounds_toArray, List.set_cons_zero, List.set_cons_succ])
              refine rgK_one (i := 7) (by kernel_rfl) rfl rfl (fun x7 hc_x7 he_x7 K hK => ?_)
              have hbo7 := hbo6.below he_x7
              have z0 : x7.cell? ⟨w2.heap.size, 0, none⟩ = some (.slice o i co) := by simpa using hbo7.cell 0
              have zf : x7.frozen? ⟨w2.heap.size, 0, none⟩ = false := hbo7.frozen 0
              have zl := hbo7.lt
              go_simp
              refine hK _ _ (Blk.far hc_x7 (p := ⟨w2.heap.size, 0, none⟩) (by show w.heap.size ≠ w2.heap.size; omega) _) ?_
              clear hK K
              (try simp only [List.setIfInBounds_toArray, List.set_cons_zero, List.set_cons_succ])
              refine ⟨by kernel_rfl, fun wz hcz hez => NoPanic.normal ?_⟩
              have e1 : i + 1 = i + 1 := rfl
              have HBOZ := Lib.hid ((hbo7.set_ 0 (.slice D6 (i + 1) c6)).below hez)
              have HOWZ := Lib.hid (own_keep (own_set (own_keep ho6 he_x7) (p := ⟨w2.heap.size, 0, none⟩) (fun g e => by have h9 := (own_lt ho6 g e).1; show g ≠ w2.heap.size; omega) (.slice D6 (i + 1) c6)) hez)
              have hbz : Below w.heap.size w wz := bel_trans (bel_set (bel_trans (bel_app (bel_trans HB.out (bel_trans HB3.out hq6)) hg6 (fun g e => by have := (own_lt HOW.out g e).1; omega)) he_x7) (by show w.heap.size ≤ w2.heap.size; omega)) hez
              have HBZ := Lib.hid hbz
              have HSZ := Lib.hid (show w2.heap.size + 1 ≤ wz.heap.size by have h1 := hez.size; have h2 := he_x7.size; have h3 := hg6.size; have h4 := hq6.size; have h5 := HB3.out.size; simp only [World.size_setCell] at h1; omega)
              have HCZ := Lib.hid hcz
              clear hcz hez hbz hbo6 hbo7 z0 zf zl
              go_wp2_with fail
              exact ⟨⟨i + 1, c6, D6, by omega, by go_num, HBOZ.out, by rw [HMAP.out]; exact HOWZ.out, HAL2.out, HCZ.out, HBZ.out, HSZ.out⟩, by simp [intOf]; omega⟩
      · obtain rfl : i = k := by omega
        have hi1 : ¬ (i : Int) < (i : Int) := by omega
        have HTL : Hid (l.take i = l) := List.take_of_length_le (by rw [HLI.out]; exact Nat.le_refl _)
        have hall := HALL.out
        have hown := HOW.out
        rw [HTL.out] at hall hown
        have hto : ttOk n0 rows l k' = true := by unfold ttOk; rw [HA.out, List.all_eq_true.2 hall]; rfl
        have htv : ttV n0 rows l k' = StM.stS keyT (l.map fun x => tmV n0 rows x k') := by unfold ttV; rw [hto]; rfl
        obtain ⟨M, hM⟩ : ∃ M, l.map (fun x => tmV n0 rows x k') = M := ⟨_, rfl⟩
        rw [hM] at htv hown
        have hMl : M.length = i := by rw [← hM, List.length_map, HLI.out]
        have hMr : ∀ x ∈ M, 0 ≤ x ∧ x < 2 ^ 62 := fun x hx => by
          rw [← hM] at hx
          obtain ⟨y, _, rfl⟩ := List.mem_map.1 hx
          exact tmV_lt
        have hTr := HT.out.below HB.out
        have hsz0 := HB2.out.size
        have htbl := HTBL.out
        have HSO := Lib.hid (sortT (w2.heap.size + 1) w2.heap.size i co o M wr hMl (by omega) hown HBOW.out (by omega) hTr (by omega) hMr)
        have HTV := Lib.hid htv
        have HTO := Lib.hid hto
        clear hall hown hto htv hM hMl hMr hTr htbl
        go_wp2_with fail
        refine HSO.out.mono ?_
        rintro e w5 ⟨rfl, ho5, hb5, hg5⟩
        have q0 : w5.cell? ⟨w2.heap.size, 0, none⟩ = some (.slice o i co) := by simpa using hb5.cell 0
        have ql := hb5.lt
        have HO5 := Lib.hid (own_base ho5 (show w.heap.size ≤ w2.heap.size + 1 by omega))
        have HB5 := Lib.hid (bel_app HB.out hg5 (fun g e => by have := (own_lt HOW.out g e).1; omega))
        clear ho5 hb5 hg5 o0 ol of_
        go_wp2_with fail
        go_ret2
        exact ⟨o, i, co, by rw [HTO.out]; rfl, by rw [HTV.out]; exact HO5.out, HB5.out⟩
end Go.Proofs.YtoedmmhiinhljaaDoor

/- The canonical tiling: the program. -/
namespace Go.Proofs.YtoedmmhiinhljaaDoor
open Go.RowKit
set_option linter.unusedVariables false
attribute [local go_sem ↓] Go.wp_at_zero Go.wp_at_succ

set_option maxHeartbeats 1600000 in
theorem lessInts_i (A B : Option Addr) (n c m d : Nat) (xs ys : List Int) (w : World) (hr : Rd w A (vI xs)) (hl : xs.length = n) (hr2 : Rd w B (vI ys)) (hl2 : ys.length = m) (hn : n ≤ 1099511627776) (hm : m ≤ 1099511627776) :
    Calls Tryd.prog 30 #[.slice A n c, .slice B m d] w (Ret w (.bool (lxI xs ys))) := by
  have HR := Lib.hid hr
  have HL := Lib.hid hl
  have HR2 := Lib.hid hr2
  have HL2 := Lib.hid hl2
  clear hr hl hr2 hl2
  go_enter Tryd.func30, Tryd.ntmps30
  go_wp2_with fail
  go_loopw [5] (fun e5 wr => ∃ k : Nat, k ≤ n ∧ k ≤ m ∧ e5 = .int .i64 k ∧ (∀ j, j < k → xs.getD j 0 = ys.getD j 0) ∧ Below w.heap.size w wr) (fun e5 _ => n - (intOf e5).toNat)
  case atStart => exact ⟨0, Nat.zero_le _, Nat.zero_le _, rfl, (fun j h => by omega), Below.refl _ _⟩
  case round =>
    obtain ⟨k, hk1, hk2, rfl, hsame, hb⟩ := hrel
    have HSM := Lib.hid hsame
    have HB := Lib.hid hb
    clear hsame hb
    by_cases h1 : k < n
    · by_cases h2 : k < m
      · have hi0 : (0 : Int) ≤ (k : Int) := by omega
        have hi1 : (k : Int) < (n : Int) := by omega
        have hi2 : (k : Int) < (m : Int) := by omega
        have k1 : k < xs.length := by rw [HL.out]; exact h1
        have k2 : k < ys.length := by rw [HL2.out]; exact h2
        obtain ⟨g1, o1, hA, gl1, d1⟩ := RdI.at_ (HR.out.below HB.out) k1
        obtain ⟨g2, o2, hB, gl2, d2⟩ := RdI.at_ (HR2.out.below HB.out) k2
        have e1 : xs.getD k 0 = xs[k] := by rw [List.getD_eq_getElem?_getD, List.getElem?_eq_getElem k1]; rfl
        have e2 : ys.getD k 0 = ys[k] := by rw [List.getD_eq_getElem?_getD, List.getElem?_eq_getElem k2]; rfl
        have hdf := fun h => lxI_diff k1 k2 HSM.out h
        obtain ⟨x, hx⟩ : ∃ x, xs[k] = x := ⟨_, rfl⟩
        obtain ⟨y, hy⟩ : ∃ y, ys[k] = y := ⟨_, rfl⟩
        rw [hx] at d1 e1
        rw [hy] at d2 e2
        rw [e1, e2] at hdf
        subst hA
        subst hB
        by_cases hxy : x = y
        · have HS2 : Hid (∀ j, j < k + 1 → xs.getD j 0 = ys.getD j 0) := fun j hj => by
            by_cases hjk : j = k
            · rw [hjk, e1, e2, hxy]
            · exact HSM.out j (by omega)
          have hne : (x != y) = false := by simp [hxy]
          clear hx hy e1 e2 hdf k1 k2 hxy
          go_wp2_with fail
          (refine wp_region_below (by kernel_rfl) (by kernel_rfl) ?_; (repeat (first | go_big_quiet_skip | (refine quietV (v := ?_) (by rfl) rfl (fun w' hbw => ?_) ?_; rotate_left; ((try dsimp only at hbw); have hbc := (bcell hbw).1; have hbf := (bcell hbw).2; go_simp; first | done | with_reducible rfl | fail); simp only [List.setIfInBounds_toArray, List.set_cons_zero, List.set_cons_succ]))); refine wpQuiet_nil ?_; intro wq hbq)
          have HBQ := Lib.hid (bel_trans HB.out hbq)
          clear hbq
          go_wp2_with fail
          exact ⟨⟨k + 1, by omega, by omega, by go_num, HS2.out, HBQ.out⟩, by simp [intOf]; omega⟩
        · have HV : Hid (lxI xs ys = decide (x < y)) := hdf hxy
          have hne : (x != y) = true := by simp [hxy]
          clear hx hy e1 e2 hdf k1 k2 hxy
          go_wp2_with fail
          (refine wp_region_below (by kernel_rfl) (by kernel_rfl) ?_; (repeat (first | go_big_quiet_skip | (refine quietV (v := ?_) (by rfl) rfl (fun w' hbw => ?_) ?_; rotate_left; ((try dsimp only at hbw); have hbc := (bcell hbw).1; have hbf := (bcell hbw).2; go_simp; first | done | with_reducible rfl | fail); simp only [List.setIfInBounds_toArray, List.set_cons_zero, List.set_cons_succ]))); refine wpQuiet_nil ?_; intro wq hbq)
          have HBQ := Lib.hid (bel_trans HB.out hbq)
          have c1 := keep_below hbq d1
          have c2 := keep_below hbq d2
          have l1 := World.block_lt_of_cell? _ _ c1
          have l2 := World.block_lt_of_cell? _ _ c2
          clear hbq d1 d2
          go_wp2_with fail
          (refine wp_region_below (by kernel_rfl) (by kernel_rfl) ?_; (repeat (first | go_big_quiet_skip | (refine quietV (v := ?_) (by rfl) rfl (fun w' hbw => ?_) ?_; rotate_left; ((try dsimp only at hbw); have hbc := (bcell hbw).1; have hbf := (bcell hbw).2; go_simp; first | done | with_reducible rfl | fail); simp only [List.setIfInBounds_toArray, List.set_cons_zero, List.set_cons_succ]))); refine wpQuiet_nil ?_; intro wp hbp)
          go_wp2_with fail
          go_ret
          exact ⟨by rw [HV.out]; rfl, bel_trans HBQ.out hbp⟩
      · have hi1 : (k : Int) < (n : Int) := by omega
        have hi2 : ¬ (k : Int) < (m : Int) := by omega
        have HV : Hid (lxI xs ys = decide ((n : Int) < (m : Int))) := by
          show _ = _
          rw [lxI_end (by rw [HL.out]; exact hk1) (by rw [HL2.out]; exact hk2) HSM.out (.inr (by rw [HL2.out]; omega)), HL.out, HL2.out]
          simp
        clear h1 h2
        go_wp2_with fail
        go_ret
        exact ⟨by rw [HV.out]; (first | rfl | simp), HB.out⟩
    · have hi1 : ¬ (k : Int) < (n : Int) := by omega
      have HV : Hid (lxI xs ys = decide ((n : Int) < (m : Int))) := by
        show _ = _
        rw [lxI_end (by rw [HL.out]; exact hk1) (by rw [HL2.out]; exact hk2) HSM.out (.inl (by rw [HL.out]; omega)), HL.out, HL2.out]
        simp
      clear h1
      go_wp2_with fail
      go_ret
      exact ⟨by rw [HV.out]; (first | rfl | simp), HB.out⟩
set_option maxRecDepth 100000 in
set_option maxHeartbeats 6400000 in
theorem CanonicalTiling_i (W : Int) (A : Option Addr) (n c : Nat) (D : Option Addr) (k cd : Nat) (rows l : List Int) (w : World) (hr : Rd w A (vI rows)) (hl : rows.length = n) (hrI : Rd w D (vI l)) (hlI : l.length = k) (hx : ∀ x ∈ l, x < 9223372036854775808) (hk : k ≤ 1048576) (hTb : Tb w) :
    Calls Tryd.prog 16 #[.agg #[.int .i64 W, .slice A n c], .slice D k cd] w (RetS2 w 3 1 (vI (canV W rows l)) (.bool (canOk W rows l))) := by
  have HL := Lib.hid hl
  have HR := Lib.hid hr
  have HRI := Lib.hid hrI
  have HLI := Lib.hid hlI
  have HX := Lib.hid hx
  have hml := motV_len W rows
  obtain ⟨M, hM⟩ : ∃ M, motV W rows = M := ⟨_, rfl⟩
  have hMm : ∀ m ∈ M, ttOk W rows l m = l.all (okMask W rows) := fun m h => ttOk_mem (by rw [hM]; exact h)
  have hTl : ∀ m, (ttV W rows l m).length ≤ k := fun m => by have := ttV_len W rows l m; omega
  have hTl := Lib.hid hTl
  have HTb := Lib.hid hTb
  have HB0 := Lib.hid (Blk.new w 28 #[.int .i64 W, .slice A n c])
  have hbe0 := bel_alloc (Below.refl w.heap.size w) (.cells #[.int .i64 W, .slice A n c] 28)
  have HBE0 := Lib.hid hbe0
  have HR0 := Lib.hid (hr.below hbe0)
  clear hr hl hrI hlI hx hbe0 hTb
  obtain ⟨ok, hok⟩ : ∃ ok, l.all (okMask W rows) = ok := ⟨_, rfl⟩
  have HOK := Lib.hid hok
  rw [hok] at hMm
  cases ok with
  | false =>
    have HMM := Lib.hid hMm
    have HMV := Lib.hid hM
    have HV : Hid (canV W rows l = []) := by show _ = _; unfold canV; rw [hok]; rfl
    have HO : Hid (canOk W rows l = false) := by show _ = _; unfold canOk; rw [hok]; rfl
    clear hok hMm hM
    go_enter Tryd.func16, Tryd.ntmps16
    go_wp2_with fail
    refine (RegionMotions_i W A n c rows _ HR0.out HL.out).mono ?_
    rw [HMV.out]
    rintro e w1 ⟨G, q, cq, rfl, hoG, hb1⟩
    have HQ := Lib.hid (by have := own_len hoG; rw [vI_length] at this; omega : M.length = q)
    have hq8 : q ≤ 8 := by have h1 := HQ.out; have h2 := HMV.out; rw [h2] at hml; omega
    have HRG := Lib.hid (Rd.of_own hoG)
    have HBX := Lib.hid (HB0.out.below hb1)
    have HB1 := Lib.hid (bel_trans HBE0.out hb1)
    clear hoG hb1
    go_wp2_with fail
    go_loopw [15, 6, 7] (fun e9 e6 e7 wr => e9 = .int .i64 0 ∧ e6 = .slice none 0 0 ∧ e7 = .bool false ∧ wr = w1) (fun _ _ _ _ => 0)
    case atStart => exact ⟨rfl, rfl, rfl, rfl⟩
    case round =>
      obtain ⟨rfl, rfl, rfl, rfl⟩ := hrel
      have b0 : wr.cell? ⟨w.heap.size, 0, none⟩ = some (.int .i64 W) := by simpa using HBX.out.cell 0
      have b1 : wr.cell? ⟨w.heap.size, 1, none⟩ = some (.slice A n c) := by simpa using HBX.out.cell 1
      have bl := HBX.out.lt
      by_cases h0 : 0 < q
      · have hi1 : (0 : Int) < (q : Int) := by omega
        have hil : 0 < M.length := by rw [HQ.out]; exact h0
        obtain ⟨gg, off, hA, hgg, d1⟩ := RdI.at_ HRG.out hil
        obtain ⟨m, hm⟩ : ∃ m, M[0] = m := ⟨_, rfl⟩
        have hmm := HMM.out m (by rw [← hm]; exact List.getElem_mem hil)
        rw [hm, Nat.add_zero] at d1
        have HTO := Lib.hid hmm
        clear hm hmm hil
        subst hA
        go_wp2_with fail
        refine (TurnTiling_i W A n c D k cd rows l m _ (HR.out.below HB1.out) HL.out (HRI.out.below HB1.out) HLI.out HX.out hk (HTb.out.below HB1.out)).mono ?_
        rw [HTO.out]
        rintro e v1 ⟨X, qx, cx, rfl, hoX, hbX⟩
        have HBZ := Lib.hid (bel_trans HB1.out hbX)
        clear hoX hbX
        go_wp2_with fail
        go_ret2
        exact ⟨none, 0, 0, by rw [HO.out]; rfl, by rw [HV.out]; exact own_nil _ _ _ _, HBZ.out⟩
      · have hi1 : ¬ (0 : Int) < (q : Int) := by omega
        go_wp2_with fail
        go_ret2
        exact ⟨none, 0, 0, by rw [HO.out]; rfl, by rw [HV.out]; exact own_nil _ _ _ _, HB1.out⟩
  | true =>
    obtain ⟨T, hT0⟩ : ∃ T, M.map (ttV W rows l) = T := ⟨_, rfl⟩
    have HV : Hid (canV W rows l = (canL T).getD []) := by show _ = _; unfold canV; rw [HOK.out, hM, hT0]; rfl
    have HO : Hid (canOk W rows l = decide (M ≠ [])) := by show _ = _; unfold canOk; rw [HOK.out, hM]; rfl
    have HTM : Hid (T.length = M.length) := by show _ = _; rw [← hT0, List.length_map]
    have HTA : Hid (∀ i (h : i < T.length) (h2 : i < M.length), T[i] = ttV W rows l M[i]) := fun i h h2 => by subst hT0; simp
    have HMM := Lib.hid hMm
    have HMV := Lib.hid hM
    clear hok hMm hM hT0
    go_enter Tryd.func16, Tryd.ntmps16
    go_wp2_with fail
    refine (RegionMotions_i W A n c rows _ HR0.out HL.out).mono ?_
    rw [HMV.out]
    rintro e w1 ⟨G, q, cq, rfl, hoG, hb1⟩
    have HQ := Lib.hid (by have := own_len hoG; rw [vI_length] at this; omega : M.length = q)
    have hq8 : q ≤ 8 := by have h1 := HQ.out; have h2 := HMV.out; rw [h2] at hml; omega
    have HRG := Lib.hid (Rd.of_own hoG)
    have HBX := Lib.hid (HB0.out.below hb1)
    have HB1 := Lib.hid (bel_trans HBE0.out hb1)
    have HO1 := Lib.hid (own_nil w1 w.heap.size 3 1)
    clear hoG hb1
    go_wp2_with fail
    go_loopw [15, 6, 7] (fun e9 e6 e7 wr => ∃ (i : Nat) (Z : Option Addr) (z cz : Nat), i ≤ q ∧ e9 = .int .i64 i ∧ e6 = .slice Z z cz ∧ e7 = .bool (canL (T.take i)).isSome ∧ wr.ownsRow w.heap.size 3 1 (.slice Z z cz) z (vI ((canL (T.take i)).getD [])) ∧ z ≤ k ∧ Below w1.heap.size w1 wr) (fun e9 _ _ _ => q - (intOf e9).toNat)
    case atStart => exact ⟨0, none, 0, 0, Nat.zero_le _, rfl, rfl, rfl, HO1.out, Nat.zero_le _, Below.refl _ _⟩
    case round =>
      obtain ⟨i, Z, z, cz, hiq, rfl, rfl, rfl, hown, hzk, hb⟩ := hrel
      have HOW := Lib.hid hown
      have HB := Lib.hid hb
      have hbx := HBX.out.below hb
      have b0 : wr.cell? ⟨w.heap.size, 0, none⟩ = some (.int .i64 W) := by simpa using hbx.cell 0
      have b1 : wr.cell? ⟨w.heap.size, 1, none⟩ = some (.slice A n c) := by simpa using hbx.cell 1
      have bl := hbx.lt
      clear hown hb hbx
      by_cases hlt : i < q
      · have hi0 : (0 : Int) ≤ (i : Int) := by omega
        have hi1 : (i : Int) < (q : Int) := by omega
        have hil : i < M.length := by rw [HQ.out]; exact hlt
        have hit : i < T.length := by rw [HTM.out]; exact hil
        obtain ⟨gg, off, hA, hgg, d1⟩ := RdI.at_ (HRG.out.below HB.out) hil
        have hta := HTA.out i hit hil
        have htk := canL_take hit
        obtain ⟨m, hm⟩ : ∃ m, M[i] = m := ⟨_, rfl⟩
        have hmm := HMM.out m (by rw [← hm]; exact List.getElem_mem hil)
        rw [hm] at d1 hta
        rw [hta] at htk
        obtain ⟨t, ht⟩ : ∃ t, ttV W rows l m = t := ⟨_, rfl⟩
        rw [ht] at htk
        have HTV := Lib.hid ht
        have HTO := Lib.hid hmm
        have HTK := Lib.hid htk
        clear hm hmm hil hit hta htk ht
        subst hA
        go_wp2_with fail
        refine (TurnTiling_i W A n c D k cd rows l m _ ((HR.out.below HB1.out).below HB.out) HL.out ((HRI.out.below HB1.out).below HB.out) HLI.out HX.out hk ((HTb.out.below HB1.out).below HB.out)).mono ?_
        rw [HTO.out, HTV.out]
        rintro e wz ⟨X, qx, cx, rfl, hoX, hbX⟩
        have htq : t.length = qx := by have := own_len hoX; rw [vI_length] at this; omega
        have hqk : qx ≤ k := by have := hTl.out m; rw [HTV.out] at this; omega
        have HTQ := Lib.hid htq
        have HOX := Lib.hid (own_base hoX (by have h2 := HB.out.size; have h3 := HB1.out.size; omega : w.heap.size ≤ _))
        have HBZ := Lib.hid (bel_trans HB.out hbX)
        have HOW2 := Lib.hid (own_keep HOW.out hbX)
        clear hoX hbX htq d1 b0 b1 bl
        cases hcl : canL (T.take i) with
        | none =>
          have HN : Hid (canL (T.take (i + 1)) = some t) := by show _ = _; rw [HTK.out, hcl]; rfl
          rw [show (none : Option (List Int)).isSome = false from rfl]
          clear hcl
          go_wp2_with fail
          exact ⟨⟨i + 1, X, qx, cx, by omega, by go_num, rfl, by rw [HN.out]; rfl, by rw [HN.out]; exact HOX.out, hqk, HBZ.out⟩, by simp [intOf]; omega⟩
        | some b =>
          have hbz : b.length = z := by have h := HOW.out; rw [hcl] at h; have h2 := own_len h; rw [vI_length] at h2; simp only [Option.getD_some, Nat.mul_one] at h2; exact h2
          have hrb := Rd.of_own HOW2.out
          rw [hcl] at hrb
          have HBL := Lib.hid hbz
          have HRB : Hid (Rd wz Z (vI b)) := hrb
          have HLX := Lib.hid (lessInts_i X Z qx cx z cz t b wz (Rd.of_own HOX.out) HTQ.out HRB.out HBL.out (by omega) (by omega))
          have HN : Hid (canL (T.take (i + 1)) = some (if lxI t b then t else b)) := by show _ = _; rw [HTK.out, hcl]; rfl
          have HCL := Lib.hid hcl
          rw [show (some b : Option (List Int)).isSome = true from rfl]
          clear hcl hbz hrb
          cases hlx : lxI t b with
          | true =>
            rw [hlx] at HLX HN
            have HN2 : Hid (canL (T.take (i + 1)) = some t) := HN.out
            clear HN
            go_wp2_with fail
            refine HLX.out.mono ?_
            rintro e w7 ⟨rfl, hb7⟩
            go_wp2_with fail
            exact ⟨⟨i + 1, X, qx, cx, by omega, by go_num, rfl, by rw [HN2.out]; rfl, by rw [HN2.out]; exact own_keep HOX.out hb7, hqk, bel_trans HBZ.out hb7⟩, by simp [intOf]; omega⟩
          | false =>
            rw [hlx] at HLX HN
            have HN2 : Hid (canL (T.take (i + 1)) = some b) := HN.out
            have HOB : Hid (wz.ownsRow w.heap.size 3 1 (.slice Z z cz) z (vI b)) := by have h := HOW2.out; rw [HCL.out] at h; exact h
            clear HN
            go_wp2_with fail
            refine HLX.out.mono ?_
            rintro e w7 ⟨rfl, hb7⟩
            go_wp2_with fail
            exact ⟨⟨i + 1, Z, z, cz, by omega, by go_num, rfl, by rw [HN2.out]; rfl, by rw [HN2.out]; exact own_keep HOB.out hb7, hzk, bel_trans HBZ.out hb7⟩, by simp [intOf]; omega⟩
      · obtain rfl : i = q := by omega
        have hi1 : ¬ (i : Int) < (i : Int) := by omega
        have HTL : Hid (T.take i = T) := List.take_of_length_le (by rw [HTM.out, HQ.out]; exact Nat.le_refl _)
        have hown := HOW.out
        have hfo : (canL (T.take i)).isSome = decide (M ≠ []) := by
          by_cases h0 : i = 0
          · rw [h0, decide_eq_false (by intro h; exact h (List.eq_nil_of_length_eq_zero (by rw [HQ.out, h0])))]; rfl
          · obtain ⟨j, hj⟩ : ∃ j, i = j + 1 := ⟨i - 1, by omega⟩
            rw [hj, canL_some (by rw [HTM.out, HQ.out]; omega), decide_eq_true (by intro h; rw [h] at HQ; have h3 := HQ.out; simp at h3; omega)]
        rw [HTL.out] at hown
        have HOWE := Lib.hid hown
        have HFO := Lib.hid hfo
        clear hown hfo
        go_wp2_with fail
        go_ret2
        exact ⟨_, _, _, by rw [HO.out, ← HFO.out]; rfl, by rw [HV.out]; exact HOWE.out, bel_trans HB1.out HB.out⟩
end Go.Proofs.YtoedmmhiinhljaaDoor

/- The laws' own functions on integers and slices of integers: copying, comparing, marking. -/
namespace Go.Proofs.YtoedmmhiinhljaaDoor
open Go.RowKit
set_option linter.unusedVariables false
attribute [local go_sem ↓] Go.wp_at_zero Go.wp_at_succ

theorem toIntS_l (A : Option Addr) (n c : Nat) (xs : List Int) (w : World) (hr : Rd w A (vI xs)) (hl : xs.length = n) (hn : n ≤ 1048576) :
    Calls Tryd.prog 8 #[.slice A n c] w (RetS w 3 1 (vI xs)) := by
  have hmk := mk_I w n hn
  go_enter Tryd.func8, Tryd.ntmps8
  go_wp2
  go_loopw [4] (fun i wr => ∃ k : Nat, k ≤ n ∧ i = .int .i64 k ∧ Blk wr w.heap.size 3 (vI (xs.take k ++ List.replicate (xs.length - k) 0)).toArray ∧ Below w.heap.size w wr) (fun i _ => n - (intOf i).toNat)
  case atStart => exact ⟨0, Nat.zero_le _, rfl, by rw [hl]; exact Blk.new _ _ _, (by (repeat (first | with_reducible exact Below.refl _ _ | with_reducible assumption | with_reducible apply bel_alloc | with_reducible apply bel_drew | with_reducible apply bel_drewN | ((with_reducible refine bel_set ?_ ?_); rotate_left; (simp <;> omega)) | (with_reducible refine bel_trans ?_ (by with_reducible assumption)))))⟩
  case round =>
    obtain ⟨k, hk, rfl, hB, hb⟩ := hrel
    clear hmk
    by_cases hlt : k < n
    · have hkx : k < xs.length := by omega
      obtain ⟨g, off, rfl, hgn, c0⟩ := RdI.at_ hr hkx
      have c1 := keep_below hb c0
      have hgw := Nat.lt_of_lt_of_le hgn hb.size
      clear c0
      obtain ⟨x, hx⟩ : ∃ x, xs[k] = x := ⟨_, rfl⟩
      have hs := blkI_set hB k x
      rw [← hx, fill_step xs 0 k hkx, hx] at hs
      have d1 := blkI_cell hB (k := k) (by rw [fill_len _ _ _ (by omega)]; omega)
      generalize (xs.take k ++ List.replicate (xs.length - k) 0)[k]'(by rw [fill_len _ _ _ (by omega)]; omega) = z at d1
      have f1 := hB.frozen k
      rw [hx] at c1
      have HS := Lib.hid hs
      have hgl := hB.lt
      clear hs hx hB hl
      go_wp2
      exact ⟨⟨k + 1, by omega, by go_num, HS.out, (by (repeat (first | with_reducible exact Below.refl _ _ | with_reducible assumption | with_reducible apply bel_alloc | with_reducible apply bel_drew | with_reducible apply bel_drewN | ((with_reducible refine bel_set ?_ ?_); rotate_left; (simp <;> omega)) | (with_reducible refine bel_trans ?_ (by with_reducible assumption)))))⟩, by simp [intOf]; omega⟩
    · have hkk : k = n := by omega
      subst hkk
      have ho := own_blk hB (size := 1) (n := k) (by simp [vI_length, ← hl]) (Nat.le_refl _) (by unfold maxLen; omega)
      rw [← hl, fill_end] at ho
      have HO := Lib.hid ho
      have HL := Lib.hid hl
      clear ho hB hl
      go_wp2
      go_ret
      exact ⟨_, _, _, rfl, by have h := HO.out; rw [HL.out] at h; simpa using h, hb⟩

theorem eqIntS_l (A A2 : Option Addr) (n c n2 c2 : Nat) (xs ys : List Int) (w : World) (hr : Rd w A (vI xs)) (hr2 : Rd w A2 (vI ys)) (hl : xs.length = n) (hl2 : ys.length = n2) (hn : n ≤ 1099511627776) (hn2 : n2 ≤ 1099511627776) :
    Calls Tryd.prog 10 #[.slice A n c, .slice A2 n2 c2] w (Ret w (.bool (decide (xs = ys)))) := by
  by_cases hne : n = n2
  · subst hne
    have HL := Lib.hid hl
    have HL2 := Lib.hid hl2
    go_enter Tryd.func10, Tryd.ntmps10
    go_wp2
    clear hl hl2
    go_loopw [5] (fun i wr => ∃ k : Nat, k ≤ n ∧ i = .int .i64 k ∧ xs.take k = ys.take k ∧ Below w.heap.size w wr) (fun i _ => n - (intOf i).toNat)
    case atStart => exact ⟨0, Nat.zero_le _, rfl, rfl, Below.refl _ _⟩
    case round =>
      obtain ⟨k, hk, rfl, he, hb⟩ := hrel
      by_cases hlt : k < n
      · have hkx : k < xs.length := by rw [HL.out]; omega
        have hky : k < ys.length := by rw [HL2.out]; omega
        obtain ⟨g, off, rfl, hgw, c1⟩ := RdI.at_ (hr.below hb) hkx
        obtain ⟨g2, off2, rfl, hgw2, c2⟩ := RdI.at_ (hr2.below hb) hky
        have e1 := List.take_succ_eq_append_getElem hkx
        have e2 := List.take_succ_eq_append_getElem hky
        obtain ⟨x, hx⟩ : ∃ x, xs[k] = x := ⟨_, rfl⟩
        obtain ⟨y, hy⟩ : ∃ y, ys[k] = y := ⟨_, rfl⟩
        rw [hx] at c1 e1
        rw [hy] at c2 e2
        have HX := Lib.hid hx
        have HY := Lib.hid hy
        have HE := Lib.hid he
        have E1 := Lib.hid e1
        have E2 := Lib.hid e2
        have hi0 : (0 : Int) ≤ (k : Int) := by omega
        have hi1 : (k : Int) < (n : Int) := by omega
        clear e1 e2 hx hy he
        by_cases hxy : x = y
        · subst hxy
          go_wp2_with fail
          go_quiet (fail)
          go_wp2
          exact ⟨⟨k + 1, by omega, by go_num, by rw [E1.out, E2.out, HE.out], (by (repeat (first | with_reducible exact Below.refl _ _ | with_reducible assumption | with_reducible apply bel_alloc | with_reducible apply bel_drew | with_reducible apply bel_drewN | ((with_reducible refine bel_set ?_ ?_); rotate_left; (simp <;> omega)) | (with_reducible refine bel_trans ?_ (by with_reducible assumption)))))⟩, by simp [intOf]; omega⟩
        · have hd : (x == y) = false := by simpa using hxy
          have hv : decide (xs = ys) = false := by
            simp only [decide_eq_false_iff_not]
            rintro rfl
            exact hxy (HX.out.symm.trans HY.out)
          have HV := Lib.hid hv
          clear hxy hv
          go_wp2_with fail
          go_quiet (fail)
          go_wp2
          go_ret
          exact ⟨by rw [HV.out]; rfl, (by (repeat (first | with_reducible exact Below.refl _ _ | with_reducible assumption | with_reducible apply bel_alloc | with_reducible apply bel_drew | with_reducible apply bel_drewN | ((with_reducible refine bel_set ?_ ?_); rotate_left; (simp <;> omega)) | (with_reducible refine bel_trans ?_ (by with_reducible assumption)))))⟩
      · have hkk : k = n := by omega
        subst hkk
        rw [List.take_of_length_le (by rw [HL.out]; omega), List.take_of_length_le (by rw [HL2.out]; omega)] at he
        have HV : Hid (decide (xs = ys) = true) := by simpa [Hid] using he
        clear he
        go_wp2
        go_ret
        exact ⟨by rw [HV.out]; rfl, (by (repeat (first | with_reducible exact Below.refl _ _ | with_reducible assumption | with_reducible apply bel_alloc | with_reducible apply bel_drew | with_reducible apply bel_drewN | ((with_reducible refine bel_set ?_ ?_); rotate_left; (simp <;> omega)) | (with_reducible refine bel_trans ?_ (by with_reducible assumption)))))⟩
  · have hv : decide (xs = ys) = false := by
      simp only [decide_eq_false_iff_not]
      rintro rfl
      omega
    have HV := Lib.hid hv
    have hd : ((n : Int) == (n2 : Int)) = false := by simp; omega
    clear hv hl hl2
    go_enter Tryd.func10, Tryd.ntmps10
    go_wp2
    go_ret
    exact ⟨by rw [HV.out]; rfl, (by (repeat (first | with_reducible exact Below.refl _ _ | with_reducible assumption | with_reducible apply bel_alloc | with_reducible apply bel_drew | with_reducible apply bel_drewN | ((with_reducible refine bel_set ?_ ?_); rotate_left; (simp <;> omega)) | (with_reducible refine bel_trans ?_ (by with_reducible assumption)))))⟩

theorem eqIntS_t (A A2 : Option Addr) (n c n2 c2 : Nat) (xs : List Int) (w : World) (hr : Rd w A (vI xs)) (hr2 : Rd w A2 (vI xs)) (hl : xs.length = n) (hl2 : xs.length = n2) (hn : n ≤ 1099511627776) :
    Calls Tryd.prog 10 #[.slice A n c, .slice A2 n2 c2] w (Ret w (.bool true)) := by
  have h := eqIntS_l A A2 n c n2 c2 xs xs w hr hr2 hl hl2 hn (by omega)
  simpa using h

/-- What marking does: the numbers from k on, in its own block alone. -/
def MarkP (w : World) (base E sz : Nat) (A : Option Addr) (n c : Nat) (vs : List Value) (r : Int) (e : Ending) (w' : World) : Prop :=
  e = .returned (.int .i64 r) ∧ w'.ownsRow base E sz (.slice A n c) n vs ∧ w.grownBy w' (ob A)

theorem markIntS_l (A : Option Addr) (n c base : Nat) (k : Int) (xs : List Int) (w : World) (ho : w.ownsRow base 3 1 (.slice A n c) n (vI xs)) (hn : n ≤ 1099511627776) (hk0 : 0 ≤ k) (hk1 : k ≤ 1099511627776) :
    Calls Tryd.prog 13 #[.slice A n c, .int .i64 k] w (MarkP w base 3 1 A n c (vI (io k n)) (k + n)) := by
  have hl : xs.length = n := by have := own_len ho; rw [vI_length] at this; omega
  have HL := Lib.hid hl
  clear hl
  go_enter Tryd.func13, Tryd.ntmps13
  go_wp2
  go_loopw [1, 5] (fun t i wr => ∃ j : Nat, j ≤ n ∧ i = .int .i64 j ∧ t = .int .i64 (k + j) ∧ wr.ownsRow base 3 1 (.slice A n c) n (vI (io k j ++ xs.drop j)) ∧ w.grownBy wr (ob A)) (fun _ i _ => n - (intOf i).toNat)
  case atStart => exact ⟨0, Nat.zero_le _, rfl, by simp, by simpa [io] using ho, World.grownBy.refl _ _⟩
  case round =>
    obtain ⟨j, hj, rfl, rfl, hO, hg⟩ := hrel
    by_cases hlt : j < n
    · obtain ⟨g, rfl, hbg, hgw⟩ := own_at hO (by omega)
      have hjl : j < (io k j ++ xs.drop j).length := by rw [List.length_append, io_length, List.length_drop, HL.out]; omega
      have d1 := hO.cellAt j (by omega)
      rw [show (vI (io k j ++ xs.drop j))[j]? = some (.int .i64 (io k j ++ xs.drop j)[j]) from by simp only [vI, List.getElem?_map, List.getElem?_eq_getElem hjl, Option.map_some]] at d1
      generalize (io k j ++ xs.drop j)[j] = z at d1
      have f1 := hO.frozenAt j
      have hst := (hO.stored j (.int .i64 (k + j))).1
      rw [show (vI (io k j ++ xs.drop j)).set j (.int .i64 (k + j)) = vI (io k (j + 1) ++ xs.drop (j + 1)) from by rw [← mark_step k xs j (by rw [HL.out]; omega)]; simp [vI, List.map_set]] at hst
      have HS := Lib.hid hst
      have HO := Lib.hid hO
      clear hst hO
      go_wp2
      exact ⟨⟨j + 1, by omega, by go_num, by rw [show k + (j : Int) + 1 = k + ((j + 1 : Nat) : Int) from by omega], HS.out, grown_set (p := ⟨g, j, none⟩) hg rfl _⟩, by simp [intOf]; omega⟩
    · have hkk : j = n := by omega
      subst hkk
      rw [List.drop_of_length_le (by rw [HL.out]; omega), List.append_nil] at hO
      have HO := Lib.hid hO
      clear hO
      go_wp2
      go_ret
      exact ⟨rfl, HO.out, hg⟩

theorem heldIntS_l (A : Option Addr) (n c : Nat) (k : Int) (w : World) (hr : Rd w A (vI (io k n))) (hn : n ≤ 1099511627776) (hk0 : 0 ≤ k) (hk1 : k ≤ 1099511627776) :
    Calls Tryd.prog 14 #[.slice A n c, .int .i64 k] w (Ret w (.int .i64 (k + n))) := by
  go_enter Tryd.func14, Tryd.ntmps14
  go_wp2
  go_loopw [1, 5] (fun t i wr => ∃ j : Nat, j ≤ n ∧ i = .int .i64 j ∧ t = .int .i64 (k + j) ∧ Below w.heap.size w wr) (fun _ i _ => n - (intOf i).toNat)
  case atStart => exact ⟨0, Nat.zero_le _, rfl, by simp, Below.refl _ _⟩
  case round =>
    obtain ⟨j, hj, rfl, rfl, hb⟩ := hrel
    by_cases hlt : j < n
    · obtain ⟨g, off, rfl, hgw, c1⟩ := RdI.at_ (hr.below hb) (k := j) (by rw [io_length]; omega)
      rw [io_get] at c1
      go_wp2
      exact ⟨⟨j + 1, by omega, by go_num, by rw [show k + (j : Int) + 1 = k + ((j + 1 : Nat) : Int) from by omega], hb⟩, by simp [intOf]; omega⟩
    · have hkk : j = n := by omega
      subst hkk
      go_wp2
      go_ret
      exact ⟨rfl, hb⟩
end Go.Proofs.YtoedmmhiinhljaaDoor

/- The laws' own functions on regions. -/
namespace Go.Proofs.YtoedmmhiinhljaaDoor
open Go.RowKit
set_option linter.unusedVariables false
attribute [local go_sem ↓] Go.wp_at_zero Go.wp_at_succ

theorem own_nI {w : World} {base e n c : Nat} {A : Option Addr} {xs : List Int} (h : w.ownsRow base e 1 (.slice A n c) n (vI xs)) : xs.length = n := by
  have := own_len h
  rw [vI_length] at this
  omega
theorem own_far {w : World} {base e size n c : Nat} {A : Option Addr} {xs : List Value} {p : Addr} (h : w.ownsRow base e size (.slice A n c) n xs) (u : Value) (hp : ∀ g, ob A = some g → g ≠ p.block) : (w.setCell p u).ownsRow base e size (.slice A n c) n xs :=
  h.kept (grown_set (World.grownBy.refl w (some p.block)) rfl u) (by
    rw [ownBlock_slice]
    cases hA : ob A with
    | none => exact .inl rfl
    | some g => right; intro e; injection e with e; exact hp g hA e)
theorem own_kept2 {w w' : World} {base e size n c : Nat} {A : Option Addr} {xs : List Value} {X : Option Addr} (h : w.ownsRow base e size (.slice A n c) n xs) (hg : w.grownBy w' (ob X)) (hn : ∀ g, ob A = some g → ob X ≠ some g) : w'.ownsRow base e size (.slice A n c) n xs :=
  h.kept hg (by
    rw [ownBlock_slice]
    cases hA : ob A with
    | none => exact .inl rfl
    | some g => right; intro e; exact hn g hA e.symm)
theorem grown_alloc0 {w w' : World} {o : Obj} {row : Option Nat} (h : (w.alloc o).grownBy w' row) : w.grownBy w' row :=
  ⟨h.os, h.tape, h.output, by have := h.size; simp at this; omega, fun k hk hne => (h.block k (by simp; omega) hne).trans (Below.heap_alloc w o k hk)⟩
theorem szIntS_l (A : Option Addr) (n c : Nat) (m : Int) (w : World) (hm : n ≤ maxLen) (h0 : 0 ≤ m) (h1 : m ≤ 1048576) :
    Calls Tryd.prog 17 #[.slice A n c, .int .i64 m] w (Ret w (.int .i64 (if m < (n : Int) then -1 else m - n))) := by
  unfold maxLen at hm
  by_cases h : m < (n : Int)
  · have hlt : m - (n : Int) < 0 := by omega
    go_enter Tryd.func17, Tryd.ntmps17
    go_wp2
    go_ret
    exact ⟨rfl, (by (repeat (first | with_reducible exact Below.refl _ _ | with_reducible assumption | with_reducible apply bel_alloc | with_reducible apply bel_drew | with_reducible apply bel_drewN | ((with_reducible refine bel_set ?_ ?_); rotate_left; (simp <;> omega)) | (with_reducible refine bel_trans ?_ (by with_reducible assumption)))))⟩
  · have hlt : ¬ m - (n : Int) < 0 := by omega
    go_enter Tryd.func17, Tryd.ntmps17
    go_wp2
    go_ret
    exact ⟨rfl, (by (repeat (first | with_reducible exact Below.refl _ _ | with_reducible assumption | with_reducible apply bel_alloc | with_reducible apply bel_drew | with_reducible apply bel_drewN | ((with_reducible refine bel_set ?_ ?_); rotate_left; (simp <;> omega)) | (with_reducible refine bel_trans ?_ (by with_reducible assumption)))))⟩
/-- What is left behind a region's rows. -/
def szR (m : Int) (n : Nat) : Int := if m < (n : Int) then -1 else m - n
theorem szRegion_l (W : Int) (A : Option Addr) (n c : Nat) (m : Int) (w : World) (hn : n ≤ maxLen) (h0 : 0 ≤ m) (h1 : m ≤ 1048576) :
    Calls Tryd.prog 5 #[.agg #[.int .i64 W, .slice A n c], .int .i64 m] w (Ret w (.int .i64 (szR m n))) := by
  by_cases hlt : m < (n : Int)
  · have HV : Hid (szR m n = -1) := if_pos hlt
    go_enter Tryd.func5, Tryd.ntmps5
    go_wp2_with fail
    refine (szIntS_l A n c m _ hn h0 h1).mono ?_
    rw [if_pos hlt]
    rintro e w1 ⟨rfl, hb1⟩
    go_wp2_with fail
    go_ret
    exact ⟨by rw [HV.out]; rfl, (by (repeat (first | with_reducible exact Below.refl _ _ | with_reducible assumption | with_reducible apply bel_alloc | with_reducible apply bel_drew | with_reducible apply bel_drewN | ((with_reducible refine bel_set ?_ ?_); rotate_left; (simp <;> omega)) | (with_reducible refine bel_trans ?_ (by with_reducible assumption)))))⟩
  · have HV : Hid (szR m n = m - n) := if_neg hlt
    have hd : ¬ m - (n : Int) < 0 := by omega
    go_enter Tryd.func5, Tryd.ntmps5
    go_wp2_with fail
    refine (szIntS_l A n c m _ hn h0 h1).mono ?_
    rw [if_neg (by omega)]
    rintro e w1 ⟨rfl, hb1⟩
    go_wp2_with fail
    go_ret
    exact ⟨by rw [HV.out]; rfl, (by (repeat (first | with_reducible exact Below.refl _ _ | with_reducible assumption | with_reducible apply bel_alloc | with_reducible apply bel_drew | with_reducible apply bel_drewN | ((with_reducible refine bel_set ?_ ?_); rotate_left; (simp <;> omega)) | (with_reducible refine bel_trans ?_ (by with_reducible assumption)))))⟩
/-- A result that is a region whose rows are the call's own. -/
def RetR (w : World) (W : Int) (rows : List Int) (e : Ending) (w' : World) : Prop :=
  ∃ A n c, e = .returned (.agg #[.int .i64 W, .slice A n c]) ∧ w'.ownsRow w.heap.size 3 1 (.slice A n c) n (vI rows) ∧ Below w.heap.size w w'
theorem toRegion_l (W : Int) (A : Option Addr) (n c : Nat) (rows : List Int) (w : World) (hr : Rd w A (vI rows)) (hl : rows.length = n) (hn : n ≤ 1048576) :
    Calls Tryd.prog 7 #[.agg #[.int .i64 W, .slice A n c]] w (RetR w W rows) := by
  have HL := Lib.hid hl
  clear hl
  go_enter Tryd.func7, Tryd.ntmps7
  go_wp2_with fail
  refine (toIntS_l _ _ _ rows _ (hr.below (by (repeat (first | with_reducible exact Below.refl _ _ | with_reducible assumption | with_reducible apply bel_alloc | with_reducible apply bel_drew | with_reducible apply bel_drewN | ((with_reducible refine bel_set ?_ ?_); rotate_left; (simp <;> omega)) | (with_reducible refine bel_trans ?_ (by with_reducible assumption)))))) HL.out hn).mono ?_
  rintro e w1 ⟨B, q, cq, rfl, ho, hb1⟩
  obtain rfl : q = n := (own_nI ho).symm.trans HL.out
  have hsz := hb1.size
  simp only [World.size_alloc] at hsz
  have hB2 : Blk w1 (w.heap.size + 1 + 1) 28 #[.int .i64 W, .slice none 0 0] := Blk.below (by simpa using Blk.new ((w.alloc (Obj.cells #[Value.int IntKind.i64 W, Value.slice A q c] 24)).alloc (Obj.cells #[Value.int IntKind.i64 0, Value.slice none 0 0] 28)) 28 #[.int .i64 W, .slice none 0 0]) hb1
  have hB1 : Blk w1 (w.heap.size + 1) 28 #[.int .i64 0, .slice none 0 0] := Blk.below (Blk.alloc (by simpa using Blk.new (w.alloc (Obj.cells #[Value.int IntKind.i64 W, Value.slice A q c] 24)) 28 #[.int .i64 0, .slice none 0 0]) _) hb1
  have c20 : w1.cell? ⟨w.heap.size + 1 + 1, 0, none⟩ = some (.int .i64 W) := by simpa using hB2.cell 0
  have c21 : w1.cell? ⟨w.heap.size + 1 + 1, 1, none⟩ = some (.slice none 0 0) := by simpa using hB2.cell 1
  have c10 : w1.cell? ⟨w.heap.size + 1, 0, none⟩ = some (.int .i64 0) := by simpa using hB1.cell 0
  have c11 : w1.cell? ⟨w.heap.size + 1, 1, none⟩ = some (.slice none 0 0) := by simpa using hB1.cell 1
  have z20 := hB2.frozen 0
  have z21 := hB2.frozen 1
  have z10 := hB1.frozen 0
  have z11 := hB1.frozen 1
  have HO := Lib.hid ho
  have hD := (hB1.far (p := ⟨w.heap.size + 1 + 1, 1, none⟩) (by simp) (.slice B q cq)).set_ 0 (.int .i64 W)
  have e0 : ((w1.setCell ⟨w.heap.size + 1 + 1, 1, none⟩ (.slice B q cq)).setCell ⟨w.heap.size + 1, 0, none⟩ (.int .i64 W)).cell? ⟨w.heap.size + 1, 0, none⟩ = some (.int .i64 W) := by simpa using hD.cell 0
  have e1 : (((w1.setCell ⟨w.heap.size + 1 + 1, 1, none⟩ (.slice B q cq)).setCell ⟨w.heap.size + 1, 0, none⟩ (.int .i64 W)).setCell ⟨w.heap.size + 1, 1, none⟩ (.slice B q cq)).cell? ⟨w.heap.size + 1, 1, none⟩ = some (.slice B q cq) := by simpa using (hD.set_ 1 (.slice B q cq)).cell 1
  have E0 := Lib.hid e0
  have E1 := Lib.hid e1
  clear hB1 hB2 ho hD e0 e1
  go_wp2_with fail
  have e0 := E0.out
  have e1 := E1.out
  have ne : ∀ g, ob B = some g → g ≠ w.heap.size + 1 + 1 ∧ g ≠ w.heap.size + 1 := fun g e => by have := (own_lt HO.out g e).1; simp at this; omega
  exact bodyPost_ret (v := .agg #[.int .i64 W, .slice B q cq]) (by simp [results, Tryd.results7, go_sem, e0, e1]) rfl
    ⟨_, _, _, rfl, own_far (own_far (own_far (own_base HO.out (by simp; omega)) _ fun g e => (ne g e).1) _ fun g e => (ne g e).2) _ fun g e => (ne g e).2, (by (repeat (first | with_reducible exact Below.refl _ _ | with_reducible assumption | with_reducible apply bel_alloc | with_reducible apply bel_drew | with_reducible apply bel_drewN | ((with_reducible refine bel_set ?_ ?_); rotate_left; (simp <;> omega)) | (with_reducible refine bel_trans ?_ (by with_reducible assumption)))))⟩
theorem eqRegion_t (W : Int) (A A2 : Option Addr) (n c n2 c2 : Nat) (rows : List Int) (w : World) (hr : Rd w A (vI rows)) (hr2 : Rd w A2 (vI rows)) (hl : rows.length = n) (hl2 : rows.length = n2) (hn : n ≤ 1048576) :
    Calls Tryd.prog 11 #[.agg #[.int .i64 W, .slice A n c], .agg #[.int .i64 W, .slice A2 n2 c2]] w (Ret w (.bool true)) := by
  have HL := Lib.hid hl
  have HL2 := Lib.hid hl2
  clear hl hl2
  go_enter Tryd.func11, Tryd.ntmps11
  go_wp2_with fail
  refine (eqIntS_t _ _ _ _ _ _ rows _ (hr.below (by (repeat (first | with_reducible exact Below.refl _ _ | with_reducible assumption | with_reducible apply bel_alloc | with_reducible apply bel_drew | with_reducible apply bel_drewN | ((with_reducible refine bel_set ?_ ?_); rotate_left; (simp <;> omega)) | (with_reducible refine bel_trans ?_ (by with_reducible assumption)))))) (hr2.below (by (repeat (first | with_reducible exact Below.refl _ _ | with_reducible assumption | with_reducible apply bel_alloc | with_reducible apply bel_drew | with_reducible apply bel_drewN | ((with_reducible refine bel_set ?_ ?_); rotate_left; (simp <;> omega)) | (with_reducible refine bel_trans ?_ (by with_reducible assumption)))))) HL.out HL2.out (by omega)).mono ?_
  rintro e w1 ⟨rfl, hb1⟩
  go_wp2_with fail
  go_ret
  exact ⟨rfl, (by (repeat (first | with_reducible exact Below.refl _ _ | with_reducible assumption | with_reducible apply bel_alloc | with_reducible apply bel_drew | with_reducible apply bel_drewN | ((with_reducible refine bel_set ?_ ?_); rotate_left; (simp <;> omega)) | (with_reducible refine bel_trans ?_ (by with_reducible assumption)))))⟩
theorem markRegion_l (W : Int) (A : Option Addr) (n c base : Nat) (k : Int) (rows : List Int) (w : World) (ho : w.ownsRow base 3 1 (.slice A n c) n (vI rows)) (hn : n ≤ 1048576) (hk0 : 0 ≤ k) (hk1 : k ≤ 1099511627776) :
    Calls Tryd.prog 12 #[.agg #[.int .i64 W, .slice A n c], .int .i64 k] w (MarkP w base 3 1 A n c (vI (io k n)) (k + n)) := by
  go_enter Tryd.func12, Tryd.ntmps12
  go_wp2_with fail
  refine (markIntS_l _ _ _ base k rows _ (ho.alloc _) (by omega) hk0 hk1).mono ?_
  rintro e w1 ⟨rfl, ho2, hg2⟩
  have HO := Lib.hid ho2
  have HG := Lib.hid hg2
  clear ho2 hg2
  go_wp2_with fail
  go_ret
  exact ⟨rfl, HO.out, grown_alloc0 HG.out⟩
end Go.Proofs.YtoedmmhiinhljaaDoor

/- The law on FnExactCanonicalTiling. -/
namespace Go.Proofs.YtoedmmhiinhljaaDoor
open Go.RowKit
set_option linter.unusedVariables false
attribute [local go_sem ↓] Go.wp_at_zero Go.wp_at_succ
set_option maxRecDepth 100000 in
set_option maxHeartbeats 3200000 in
theorem law_FnExactCanonicalTiling (W : Int) (A : Option Addr) (n c : Nat) (rows : List Int) (D : Option Addr) (k cd : Nat) (l : List Int) (w : World) (hr : Rd w A (vI rows)) (hl : rows.length = n) (hm : n ≤ maxLen) (hrI : Rd w D (vI l)) (hlI : l.length = k) (hmI : k ≤ maxLen) (hwI : ∀ x ∈ l, (Lit.int .i64 x).wf = true) (hTb : Tb w) :
    Calls Tryd.prog 4 #[.agg #[.int .i64 W, .slice A n c], .slice D k cd] w (Ret w (.bool true)) := by
  have HTb := Lib.hid hTb
  have HWI : Hid (∀ x ∈ l, x < 9223372036854775808) := fun x hx => by have h := hwI x hx; simp [Lit.wf, IntKind.min, IntKind.max, IntKind.bits, IntKind.signed] at h; omega
  clear hTb hwI
  by_cases hbI : (1048576 : Int) < (k : Int)
  · have hbI2 : (k : Int) > 1048576 := hbI
    go_enter Tryd.func4, Tryd.ntmps4
    go_wp2_with fail
    go_ret
    exact ⟨rfl, (by (repeat (first | with_reducible exact Below.refl _ _ | with_reducible assumption | with_reducible apply bel_alloc | with_reducible apply bel_drew | with_reducible apply bel_drewN | ((with_reducible refine bel_set ?_ ?_); rotate_left; (simp <;> omega)) | (with_reducible refine bel_trans ?_ (by with_reducible assumption)))))⟩
  · have hk : k ≤ 1048576 := by omega
    have hbI2 : ¬ (k : Int) > 1048576 := hbI
    have HLI := Lib.hid hlI
    have HRI := Lib.hid hrI
    clear hbI hlI hrI hmI
    have HL := Lib.hid hl
    have HA0 := Lib.hid (Blk.new w 24 #[.int .i64 W, .slice A n c])
    have hv7 : (canV W rows l).length ≤ 1048576 := by have := canV_len W rows l; have := HLI.out; omega
    obtain ⟨F, hv⟩ : ∃ F, canV W rows l = F := ⟨_, rfl⟩
    obtain ⟨bb, hbb⟩ : ∃ bb, (canOk W rows l) = bb := ⟨_, rfl⟩
    have HBB := Lib.hid hbb
    rw [hv] at hv7
    have HV := Lib.hid hv
    have hne1 : (bb != bb) = false := by cases bb <;> rfl
    clear hv hbb
    clear hl
    by_cases hbig : (1048576 : Int) < (n : Int)
    · have HS : Hid (szR 1048576 n = -1) := if_pos hbig
      clear hbig
      go_enter Tryd.func4, Tryd.ntmps4
      go_wp2_with fail
      refine (szRegion_l W A n c 1048576 _ hm (by omega) (by omega)).mono ?_
      rw [HS.out]
      rintro e w1 ⟨rfl, hb1⟩
      go_wp2_with fail
      go_ret
      exact ⟨rfl, (by (repeat (first | with_reducible exact Below.refl _ _ | with_reducible assumption | with_reducible apply bel_alloc | with_reducible apply bel_drew | with_reducible apply bel_drewN | ((with_reducible refine bel_set ?_ ?_); rotate_left; (simp <;> omega)) | (with_reducible refine bel_trans ?_ (by with_reducible assumption)))))⟩
    · have hn : n ≤ 1048576 := by omega
      have HS : Hid (szR 1048576 n = 1048576 - n) := if_neg hbig
      have hsz : ¬ (1048576 - (n : Int)) < 0 := by omega
      clear hbig
      go_enter Tryd.func4, Tryd.ntmps4
      go_wp2_with fail
      refine (szRegion_l W A n c 1048576 _ hm (by omega) (by omega)).mono ?_
      rw [HS.out]
      rintro e w1 ⟨rfl, hb1⟩
      have HA2 := Lib.hid (HA0.out.below hb1); (try clear a0 a1 al); have a0 : w1.cell? ⟨w.heap.size, 0, none⟩ = some (.int .i64 W) := (by simpa using HA2.out.cell 0); have a1 : w1.cell? ⟨w.heap.size, 1, none⟩ = some (.slice A n c) := (by simpa using HA2.out.cell 1); have al : w.heap.size < w1.heap.size := HA2.out.lt
      have g2 : Below w.heap.size w w1 := (by (repeat (first | with_reducible exact Below.refl _ _ | with_reducible assumption | with_reducible apply bel_alloc | with_reducible apply bel_drew | with_reducible apply bel_drewN | ((with_reducible refine bel_set ?_ ?_); rotate_left; (simp <;> omega)) | (with_reducible refine bel_trans ?_ (by with_reducible assumption)))))
      go_wp2_with fail
      refine (toRegion_l W A n c rows _ (hr.below g2) HL.out hn).mono ?_
      rintro e w3 ⟨Y, ny, cy, rfl, oY, hb3⟩
      obtain rfl : n = ny := HL.out.symm.trans (own_nI oY)
      have HY := Lib.hid (Rd.of_own oY)
      clear oY
      have HA3 := Lib.hid (HA2.out.below hb3); (try clear a0 a1 al); have a0 : w3.cell? ⟨w.heap.size, 0, none⟩ = some (.int .i64 W) := (by simpa using HA3.out.cell 0); have a1 : w3.cell? ⟨w.heap.size, 1, none⟩ = some (.slice A n c) := (by simpa using HA3.out.cell 1); have al : w.heap.size < w3.heap.size := HA3.out.lt
      have g3 := bel_trans g2 hb3
      go_wp2_with fail
      refine (toIntS_l D k cd l _ (HRI.out.below g3) HLI.out hk).mono ?_
      rintro e w5 ⟨YI, ky, cyi, rfl, oYI, hb5⟩
      obtain rfl : k = ky := HLI.out.symm.trans (own_nI oYI)
      have HYI := Lib.hid (Rd.of_own oYI)
      clear oYI
      have HA5 := Lib.hid (HA3.out.below hb5); (try clear a0 a1 al); have a0 : w5.cell? ⟨w.heap.size, 0, none⟩ = some (.int .i64 W) := (by simpa using HA5.out.cell 0); have a1 : w5.cell? ⟨w.heap.size, 1, none⟩ = some (.slice A n c) := (by simpa using HA5.out.cell 1); have al : w.heap.size < w5.heap.size := HA5.out.lt
      have g5 := bel_trans g3 hb5
      go_wp2_with fail
      refine (CanonicalTiling_s W Y n cy YI k cyi rows l _ (HY.out.below hb5) HL.out HYI.out HLI.out HWI.out (by omega)).mono ?_
      rw [HV.out, HBB.out]
      rintro e w6 ⟨Wt, mw, kw, rfl, ow, hb6⟩
      have HOW := Lib.hid ow
      have hmw : F.length = mw := by have h1 := own_len ow; rw [vI_length] at h1; omega
      have HFW := Lib.hid hmw
      clear ow
      have HA6 := Lib.hid (HA5.out.below hb6); (try clear a0 a1 al); have a0 : w6.cell? ⟨w.heap.size, 0, none⟩ = some (.int .i64 W) := (by simpa using HA6.out.cell 0); have a1 : w6.cell? ⟨w.heap.size, 1, none⟩ = some (.slice A n c) := (by simpa using HA6.out.cell 1); have al : w.heap.size < w6.heap.size := HA6.out.lt
      have g6 := bel_trans g5 hb6
      go_wp2_with fail
      refine (toRegion_l W A n c rows _ (hr.below g6) HL.out hn).mono ?_
      rintro e w7 ⟨X, nx, cx, rfl, ox, hb7⟩
      obtain rfl : n = nx := HL.out.symm.trans (own_nI ox)
      have HOX := Lib.hid ox
      clear ox
      have HA7 := Lib.hid (HA6.out.below hb7); (try clear a0 a1 al); have a0 : w7.cell? ⟨w.heap.size, 0, none⟩ = some (.int .i64 W) := (by simpa using HA7.out.cell 0); have a1 : w7.cell? ⟨w.heap.size, 1, none⟩ = some (.slice A n c) := (by simpa using HA7.out.cell 1); have al : w.heap.size < w7.heap.size := HA7.out.lt
      have g7 := bel_trans g6 hb7
      have HX8 := Lib.hid (Blk.new w7 28 #[.int .i64 W, .slice X n cx])
      have b78 : Below w7.heap.size w7 (w7.alloc (.cells #[.int .i64 W, .slice X n cx] 28)) := bel_alloc (Below.refl _ _) _
      have g8 : Below w.heap.size w (w7.alloc (.cells #[.int .i64 W, .slice X n cx] 28)) := bel_trans g7 b78
      go_wp2_with fail
      refine (toIntS_l D k cd l _ (HRI.out.below g8) HLI.out hk).mono ?_
      rintro e w9 ⟨XI, kx, cxi, rfl, oXI, hb9⟩
      obtain rfl : k = kx := HLI.out.symm.trans (own_nI oXI)
      have HOXI := Lib.hid oXI
      have HXI := Lib.hid (Rd.of_own oXI)
      clear oXI
      have b8i : Below w7.heap.size w7 w9 := bel_trans b78 hb9
      have HA9 := Lib.hid (HA7.out.below b8i); (try clear a0 a1 al); have a0 : w9.cell? ⟨w.heap.size, 0, none⟩ = some (.int .i64 W) := (by simpa using HA9.out.cell 0); have a1 : w9.cell? ⟨w.heap.size, 1, none⟩ = some (.slice A n c) := (by simpa using HA9.out.cell 1); have al : w.heap.size < w9.heap.size := HA9.out.lt
      have HX9 := Lib.hid (HX8.out.below hb9); (try clear x0 x1 xl); have x0 : w9.cell? ⟨w7.heap.size, 0, none⟩ = some (.int .i64 W) := (by simpa using HX9.out.cell 0); have x1 : w9.cell? ⟨w7.heap.size, 1, none⟩ = some (.slice X n cx) := (by simpa using HX9.out.cell 1); have xl : w7.heap.size < w9.heap.size := HX9.out.lt
      have g9 := bel_trans g8 hb9
      have b9 := b8i
      have g07 := hb6.size
      go_wp2_with fail
      refine (CanonicalTiling_i W X n cx XI k cxi rows l _ ((Rd.of_own HOX.out).below b9) HL.out HXI.out HLI.out HWI.out (by omega) (HTb.out.below g9)).mono ?_
      rw [HV.out, HBB.out]
      rintro e w10 ⟨G, mg, kg, rfl, og, hb10⟩
      have HOG := Lib.hid og
      have hmg : F.length = mg := by have h1 := own_len og; rw [vI_length] at h1; omega
      have HFG := Lib.hid hmg
      have hmg2 : mg ≤ 1048576 := by omega
      have hmw2 : mw ≤ 1048576 := by omega
      have hmg3 : mg ≤ 1099511627776 := by omega
      clear og hmg hmw
      have HA10 := Lib.hid (HA9.out.below hb10); (try clear a0 a1 al); have a0 : w10.cell? ⟨w.heap.size, 0, none⟩ = some (.int .i64 W) := (by simpa using HA10.out.cell 0); have a1 : w10.cell? ⟨w.heap.size, 1, none⟩ = some (.slice A n c) := (by simpa using HA10.out.cell 1); have al : w.heap.size < w10.heap.size := HA10.out.lt
      have HX10 := Lib.hid (HX9.out.below hb10); (try clear x0 x1 xl); have x0 : w10.cell? ⟨w7.heap.size, 0, none⟩ = some (.int .i64 W) := (by simpa using HX10.out.cell 0); have x1 : w10.cell? ⟨w7.heap.size, 1, none⟩ = some (.slice X n cx) := (by simpa using HX10.out.cell 1); have xl : w7.heap.size < w10.heap.size := HX10.out.lt
      have b06 := bel_trans g9 hb10
      have b710 := bel_trans b9 hb10
      have b610 : Below w6.heap.size w6 w10 := bel_trans hb7 b710
      go_wp2_with fail
      refine (eqIntS_t _ _ _ _ _ _ F _ (Rd.of_own (HOG.out)) (Rd.of_own (own_keep HOW.out b610)) HFG.out HFW.out hmg3).mono ?_
      rintro e w20 ⟨rfl, hb20⟩
      have HA20 := Lib.hid (HA10.out.below hb20); (try clear a0 a1 al); have a0 : w20.cell? ⟨w.heap.size, 0, none⟩ = some (.int .i64 W) := (by simpa using HA20.out.cell 0); have a1 : w20.cell? ⟨w.heap.size, 1, none⟩ = some (.slice A n c) := (by simpa using HA20.out.cell 1); have al : w.heap.size < w20.heap.size := HA20.out.lt
      have HX20 := Lib.hid (HX10.out.below hb20); (try clear x0 x1 xl); have x0 : w20.cell? ⟨w7.heap.size, 0, none⟩ = some (.int .i64 W) := (by simpa using HX20.out.cell 0); have x1 : w20.cell? ⟨w7.heap.size, 1, none⟩ = some (.slice X n cx) := (by simpa using HX20.out.cell 1); have xl : w7.heap.size < w20.heap.size := HX20.out.lt
      have b06 := bel_trans b06 hb20
      have b720 := bel_trans b710 hb20
      go_wp2_with fail; (refine wp_region_tailN (C := ExC w20) 2 (by kernel_rfl) (by kernel_rfl) (ExC.drawn _) (fun _ _ h k => ExC.ext h k) ?_; simp only [List.take_succ_cons, List.take_zero, List.drop_succ_cons, List.drop_zero]; (repeat (first | (refine headSkip (by rfl) rfl ?_; simp only [List.setIfInBounds_toArray, List.set_cons_zero, List.set_cons_succ]) | (refine headV (v := ?_) (by rfl) rfl (fun w' hcw => ?_) ?_; rotate_left; ((try dsimp only at hcw); have hbc := hcw.cells; go_simp; first | done | with_reducible rfl | fail); simp only [List.setIfInBounds_toArray, List.set_cons_zero, List.set_cons_succ]))); unfold wpHead); refine tailK (by rfl) (fun u7 hc7 he7 K hK => ?_); go_simp; refine (toRegion_l W A n c rows _ (hr.below (bel_trans b06 hc7)) HL.out hn).mono ?_; rintro e u8 ⟨Z, q3, cz, rfl, oz, hz8⟩; obtain rfl : n = q3 := (HL.out).symm.trans (own_nI oz); have hu8 := bel_trans hc7 hz8; have HOZ := Lib.hid oz; clear oz; refine hK _ _ hu8 ?_; clear hK K; refine tailK (by rfl) (fun u9 hc9 he9 K hK => ?_); go_simp; refine (eqRegion_t W X Z n cx n cz rows _ ((Rd.of_own (own_keep HOX.out b720)).below ((by (repeat (first | with_reducible exact Below.refl _ _ | with_reducible assumption | with_reducible apply bel_alloc | with_reducible apply bel_drew | with_reducible apply bel_drewN | ((with_reducible refine bel_set ?_ ?_); rotate_left; (simp <;> omega)) | (with_reducible refine bel_trans ?_ (by with_reducible assumption))))))) ((Rd.of_own HOZ.out).below he9) HL.out HL.out hn).mono ?_; rintro e u10 ⟨rfl, hz10⟩; have hu10 := bel_trans hc9 hz10; refine hK _ _ hu10 ?_; clear hK K; (refine tailK (by rfl) (fun u11 hc11 he11 K hK => ?_); go_simp; refine hK _ _ (hc11) ?_; clear hK K); (refine fun w11 hu heu => NoPanic.normal ?_)
      clear hc7 he7 hz8 hu8 HOZ hc9 he9 hz10 hu10 hc11 he11 heu
      have hb11 : Below w20.heap.size w20 w11 := hu
      clear hu
      have g11 := bel_trans b06 hb11
      go_wp2_with fail
      refine (toIntS_l D k cd l _ (HRI.out.below g11) HLI.out hk).mono ?_
      rintro e w14 ⟨ZI, kz, czi, rfl, oZI, hb14⟩
      obtain rfl : k = kz := HLI.out.symm.trans (own_nI oZI)
      have HZI := Lib.hid (Rd.of_own oZI)
      clear oZI
      go_wp2_with fail
      refine (eqIntS_t XI ZI k cxi k czi l _ ((((HXI.out.below hb10).below hb20).below hb11).below hb14) HZI.out HLI.out HLI.out (by omega)).mono ?_
      rintro e w15 ⟨rfl, hb15⟩
      have g15 := bel_trans g11 (bel_trans hb14 hb15)
      have hb1013 : Below w10.heap.size w10 w15 := bel_trans hb20 (bel_trans hb11 (bel_trans hb14 hb15))
      have b713 := bel_trans b710 hb1013
      have HX13 := Lib.hid (HX20.out.below (bel_trans hb11 (bel_trans hb14 hb15))); (try clear x0 x1 xl); have x0 : w15.cell? ⟨w7.heap.size, 0, none⟩ = some (.int .i64 W) := (by simpa using HX13.out.cell 0); have x1 : w15.cell? ⟨w7.heap.size, 1, none⟩ = some (.slice X n cx) := (by simpa using HX13.out.cell 1); have xl : w7.heap.size < w15.heap.size := HX13.out.lt
      have oX13 := own_keep HOX.out b713
      have hXlt := own_lt oX13
      have hXl2 := own_lt HOX.out
      have og13 := own_keep HOG.out hb1013
      have HOX13 := Lib.hid oX13
      have HOG13 := Lib.hid og13
      have HXL2 := Lib.hid hXl2
      have HG13 := Lib.hid g15
      have H713 := Lib.hid b713
      have H1013 := Lib.hid hb1013
      have H610 := Lib.hid b610
      have h678 : w6.heap.size ≤ w7.heap.size := hb7.size
      have h810 : w9.heap.size ≤ w10.heap.size := hb10.size
      have h7A : w7.heap.size + 1 ≤ w9.heap.size := by have h1 := hb9.size; simp only [World.size_alloc] at h1; exact h1
      have h046 : w.heap.size ≤ w6.heap.size := g6.size
      have hn1 : (0 : Int) ≤ 1 + (n : Int) := by omega
      clear oX13 hXlt hXl2 og13 g15 b713 hb1013 b610
      go_wp2_with fail
      refine (markRegion_l W X n cx w6.heap.size 1 rows _ HOX13.out hn (by omega) (by omega)).mono ?_
      rintro e w30 ⟨rfl, oX14, gX⟩
      have HGX := Lib.hid gX
      clear oX14 gX
      have HOG15 := Lib.hid (own_kept2 HOG13.out HGX.out (fun g e r => by have h1 := (own_lt HOG13.out g e).1; have h2 := (HXL2.out g r).2; omega))
      have HBW15 : Hid (Below w6.heap.size w6 w30) := ⟨HGX.out.os.trans (H1013.out.os.trans H610.out.os), HGX.out.tape.trans (H1013.out.tape.trans H610.out.tape), HGX.out.output.trans (H1013.out.output.trans H610.out.output), by have h2 := HGX.out.size; have h3 := H1013.out.size; omega, fun k hk => by
        have e1 := H610.out.block k hk
        have e2 := H1013.out.block k (by omega)
        have e3 := HGX.out.block k (by have h3 := H1013.out.size; omega) (fun r => by have h1 := (own_lt HOX.out k r.symm).1; omega)
        rw [e3, e2, e1]⟩
      have HOI15 := Lib.hid (own_kept2 (own_keep (own_keep HOXI.out hb10) H1013.out) HGX.out (fun g e r => by have h1 := (own_lt HOXI.out g e).1; have h2 := (HXL2.out g r).2; have h3 := h7A; simp only [World.size_alloc] at h1; omega))
      have h815 : w9.heap.size ≤ w30.heap.size := by have h2 := HGX.out.size; have h3 := H1013.out.size; omega
      go_wp2_with fail
      refine (markIntS_l XI k cxi _ (1 + (n : Int)) l _ HOI15.out (by omega) (by omega) (by omega)).mono ?_
      rintro e w32 ⟨rfl, oI, gI⟩
      have hk15c : ¬ 1 + (n : Int) + (k : Int) < 0 := by omega
      have HIX : Hid (∀ g, ob XI = some g → w7.heap.size ≤ g ∧ g < w9.heap.size) := fun g e => by have h1 := own_lt HOXI.out g e; simp only [World.size_alloc] at h1; omega
      have HOG15i := Lib.hid (own_kept2 HOG15.out gI (fun g e r => by have h1 := (own_lt HOG15.out g e).1; have h2 := (HIX.out g r).2; omega))
      have HBW15i := Lib.hid (HBW15.out.grown gI (Nat.le_trans (Nat.le_trans h678 (by omega)) h815) (fun g e => by have h1 := (HIX.out g e).1; omega))
      have h815i : w9.heap.size ≤ w32.heap.size := Nat.le_trans h815 gI.size
      clear oI gI
      go_wp2_with fail
      refine (eqIntS_t _ _ _ _ _ _ F _ (Rd.of_own (HOG15i.out)) (Rd.of_own (own_keep HOW.out HBW15i.out)) HFG.out HFW.out hmg3).mono ?_
      rintro e w33 ⟨rfl, hb16⟩
      have h816 : w9.heap.size ≤ w33.heap.size := Nat.le_trans h815i hb16.size
      have HB16 := Lib.hid hb16
      clear hb16
      go_wp2_with fail
      refine (markIntS_l G mg kg w9.heap.size 1 F _ (own_keep HOG15i.out HB16.out) hmg3 (by omega) (by omega)).mono ?_
      rintro e w34 ⟨rfl, oG17, g17⟩
      have HOG17 := Lib.hid oG17
      have bW17 : Below w6.heap.size w6 w34 := (bel_trans HBW15i.out HB16.out).grown g17 (by have h1 := HBW15i.out.size; have h2 := HB16.out.size; omega) (fun g e => by have h1 := (own_lt HOG15i.out g e).1; omega)
      have HBW17 := Lib.hid bW17
      have ht0 : ¬ (1 : Int) + (mg : Int) < 0 := by omega
      clear oG17 g17 bW17
      go_wp2_with fail
      refine (heldIntS_l G mg kg 1 _ (Rd.of_own HOG17.out) hmg3 (by omega) (by omega)).mono ?_
      rintro e w35 ⟨rfl, hb18⟩
      have b018 := bel_trans (bel_trans g6 HBW17.out) hb18
      have HA18 := Lib.hid (HA6.out.below (bel_trans HBW17.out hb18)); (try clear a0 a1 al); have a0 : w35.cell? ⟨w.heap.size, 0, none⟩ = some (.int .i64 W) := (by simpa using HA18.out.cell 0); have a1 : w35.cell? ⟨w.heap.size, 1, none⟩ = some (.slice A n c) := (by simpa using HA18.out.cell 1); have al : w.heap.size < w35.heap.size := HA18.out.lt
      go_wp2_with fail
      refine (toRegion_l W A n c rows _ (hr.below b018) HL.out hn).mono ?_
      rintro e w36 ⟨Y2, ny2, cy2, rfl, oY2, hb19⟩
      obtain rfl : n = ny2 := HL.out.symm.trans (own_nI oY2)
      have HY2 := Lib.hid (Rd.of_own oY2)
      clear oY2
      have b019 := bel_trans b018 hb19
      go_wp2_with fail
      refine (toIntS_l D k cd l _ (HRI.out.below b019) HLI.out hk).mono ?_
      rintro e w41 ⟨YI2, ky2, cyi2, rfl, oYI2, hb41⟩
      obtain rfl : k = ky2 := HLI.out.symm.trans (own_nI oYI2)
      have HYI2 := Lib.hid (Rd.of_own oYI2)
      clear oYI2
      go_wp2_with fail
      refine (CanonicalTiling_i W Y2 n cy2 YI2 k cyi2 rows l _ (HY2.out.below hb41) HL.out HYI2.out HLI.out HWI.out (by omega) (HTb.out.below (bel_trans b019 hb41))).mono ?_
      rw [HV.out, HBB.out]
      rintro e w38 ⟨K, mk, kk, rfl, ok21, hb21⟩
      have hmk : F.length = mk := by have h1 := own_len ok21; rw [vI_length] at h1; omega
      have hmk3 : mk ≤ 1099511627776 := by omega
      have b1721 : Below w34.heap.size w34 w38 := bel_trans (bel_trans (bel_trans hb18 hb19) hb41) hb21
      have bW21 := bel_trans HBW17.out b1721
      go_wp2_with fail
      refine (eqIntS_t _ _ _ _ _ _ F _ (Rd.of_own ok21) (Rd.of_own (own_keep HOW.out bW21)) hmk HFW.out hmk3).mono ?_
      rintro e w39 ⟨rfl, hb22⟩
      go_wp2_with fail
      refine (heldIntS_l G mg kg 1 _ (Rd.of_own (own_keep HOG17.out (bel_trans b1721 hb22))) hmg3 (by omega) (by omega)).mono ?_
      rintro e w40 ⟨rfl, hb23⟩
      go_wp2_with fail
      go_ret
      exact ⟨rfl, bel_trans (bel_trans (bel_trans (bel_trans g6 HBW17.out) b1721) hb22) hb23⟩
end Go.Proofs.YtoedmmhiinhljaaDoor

/- The library's table, out of what the row lists. -/
namespace Go.Proofs.YtoedmmhiinhljaaDoor
open Go.RowKit
set_option linter.unusedVariables false
def zs64 : List Int := Lib.deBruijn64tab.map fun (x : Nat) => (x : Int)
theorem tb_of_tab {W : World} (h : laidMet Tryd.prog [("math/bits.deBruijn64tab", Lib.tabData .u8 zs64)] W) : Tb W := by
  have hT := Lib.tabIs_of_head (P := Tryd.prog) (g := 1) (by kernel_rfl) (t := 80) (by kernel_rfl) (n := 64) (e := 5) (by kernel_rfl) (by kernel_rfl) (by kernel_rfl) (by kernel_rfl) h
  intro j hj
  have h2 := hT.cell (g := 1) (by kernel_rfl) j (by simpa [zs64] using hj)
  rw [h2]
  congr 2
  unfold zs64
  rw [List.getD_eq_getElem?_getD, List.getElem?_map, List.getElem?_eq_getElem hj, List.getD_eq_getElem?_getD, List.getElem?_eq_getElem hj]
  rfl
theorem tb_of_laid {W : World} (h : laidMetH Tryd.prog [("math/bits.deBruijn32tab", Rows.laid_math_bits_deBruijn32tab), ("math/bits.deBruijn64tab", Rows.laid_math_bits_deBruijn64tab)] W) : Tb W := by
  rw [MakeChecks.laidMetH_plain _ _ _ (by kernel_rfl)] at h
  exact tb_of_tab h.tail
end Go.Proofs.YtoedmmhiinhljaaDoor

/- An argument that is a region, opened. -/
namespace Go.Proofs.YtoedmmhiinhljaaDoor
open Go.RowKit Go.ChangeShapes Go.WideShapes Go.Deep Go.Joins
set_option linter.unusedVariables false
section
variable {H : Type} {enc : TypeId × Value → H}
set_option maxRecDepth 100000 in
theorem openI_core {W : World} {t : TypeId} (ht : Tryd.prog.underlying t = some (.slice 3)) {base : Nat} {spare : Nat → Bool} {held : Bool} {fuel : Nat} {v : Value} {x : DataW H × List MemPlace} (hf : DataW.trod enc Tryd.prog W base spare held fuel t [v] = some x) :
    ∃ A n c xs, v = .slice A n c ∧ Rd W A (vI xs) ∧ xs.length = n ∧ n ≤ maxLen := by
  rcases open_ints ht Tryd.underlying3 cellsI hf with ⟨hcs, hx⟩ | ⟨a, len', cap', zs, hcs, _, hl, hm, hz, hx, hcell, hwz⟩
  · injection hcs with hcs
    exact ⟨none, 0, 0, [], hcs, .inl rfl, rfl, Nat.zero_le _⟩
  · injection hcs with hcs
    subst hcs
    have hzl : len' ≤ zs.length := by rw [hz]; split <;> omega
    refine ⟨_, _, _, zs.take len', rfl, ?_, by rw [List.length_take]; omega, by omega⟩
    by_cases h0 : 0 < zs.length
    · obtain ⟨b, off, rfl, hc⟩ := ints_at hcell h0
      refine .inr ⟨b, off, rfl, fun j u hu => ?_⟩
      simp only [vI, List.getElem?_map, Option.map_eq_some_iff] at hu
      obtain ⟨x, hx, rfl⟩ := hu
      have hjl : j < len' := by
        rcases Nat.lt_or_ge j len' with h | h
        · exact h
        · rw [List.getElem?_eq_none (by rw [List.length_take]; omega)] at hx; cases hx
      rw [List.getElem?_take_of_lt hjl] at hx
      rw [hc j (by omega), List.getD_eq_getElem?_getD, hx]
      rfl
    · left
      rw [List.eq_nil_of_length_eq_zero (by omega : zs.length = 0)]
      simp [vI]
theorem cellsLR : Tryd.prog.cellsOf 24 = 2 := by kernel_rfl
set_option maxRecDepth 100000 in
theorem openR {W : World} {r : Reach} {b0 : Nat} {base : Nat} {spare : Nat → Bool} {held : Bool} {v : Value} {d : DataW H} {p : List MemPlace} (hv : Value.okWide Tryd.prog W r b0 24 v) (h : DataW.Trod enc Tryd.prog W base spare held 24 v d p) :
    ∃ x A n c xs, v = .agg #[.int .i64 x, .slice A n c] ∧ Rd W A (vI xs) ∧ xs.length = n ∧ n ≤ maxLen := by
  obtain ⟨v0, v1, y0, y1, m, rfl, _, _, h0, h1⟩ := open_agg2 Tryd.underlying24 (by kernel_rfl) cellsLR hv h
  obtain ⟨x, e0, _, _⟩ := DataW.trod_int Tryd.underlying3 h0
  injection e0 with e0
  subst e0
  obtain ⟨A, n, c, xs, rfl, hr, hl, hm⟩ := openI_core Tryd.underlying22 h1
  exact ⟨x, A, n, c, xs, rfl, hr, hl, hm⟩
end
end Go.Proofs.YtoedmmhiinhljaaDoor

/- An argument that is a slice of integers, with the range of its values. -/
namespace Go.Proofs.YtoedmmhiinhljaaDoor
open Go.RowKit Go.WideShapes Go.ChangeShapes
set_option linter.unusedVariables false
section
variable {H : Type} {enc : TypeId × Value → H}
set_option maxRecDepth 100000 in
theorem openJ {W : World} {r : Reach} {b0 : Nat} {t : TypeId} (ht : Tryd.prog.underlying t = some (.slice 3)) {base : Nat} {spare : Nat → Bool} {held : Bool} {v : Value} {d : DataW H} {p : List MemPlace} (hv : Value.okWide Tryd.prog W r b0 t v) (h : DataW.Trod enc Tryd.prog W base spare held t v d p) :
    ∃ A n c xs, v = .slice A n c ∧ Rd W A (vI xs) ∧ xs.length = n ∧ n ≤ maxLen ∧ ∀ x ∈ xs, (Lit.int .i64 x).wf = true := by
  obtain ⟨a0, len, cap, rfl⟩ := okWide_slice ht hv
  obtain ⟨fuel, hf⟩ := h
  rcases open_ints ht Tryd.underlying3 cellsI hf with ⟨hcs, hx⟩ | ⟨a, len', cap', zs, hcs, _, hl, hm, hz, hx, hcell, hwz⟩
  · simp [Value.cells] at hcs
    obtain ⟨rfl, rfl, rfl⟩ := hcs
    exact ⟨none, 0, 0, [], rfl, .inl rfl, rfl, Nat.zero_le _, fun x hx => by cases hx⟩
  · simp [Value.cells] at hcs
    obtain ⟨rfl, rfl, rfl⟩ := hcs
    have hzl : len ≤ zs.length := by rw [hz]; split <;> omega
    refine ⟨_, _, _, zs.take len, rfl, ?_, by rw [List.length_take]; omega, by omega, fun x hx => hwz x (List.mem_of_mem_take hx)⟩
    by_cases h0 : 0 < zs.length
    · obtain ⟨b, off, rfl, hc⟩ := ints_at hcell h0
      refine .inr ⟨b, off, rfl, fun j u hu => ?_⟩
      simp only [vI, List.getElem?_map, Option.map_eq_some_iff] at hu
      obtain ⟨x, hx, rfl⟩ := hu
      have hjl : j < len := by
        rcases Nat.lt_or_ge j len with h | h
        · exact h
        · rw [List.getElem?_eq_none (by rw [List.length_take]; omega)] at hx; cases hx
      rw [List.getElem?_take_of_lt hjl] at hx
      rw [hc j (by omega), List.getD_eq_getElem?_getD, hx]
      rfl
    · left
      rw [List.eq_nil_of_length_eq_zero (by omega : zs.length = 0)]
      simp [vI]
end
end Go.Proofs.YtoedmmhiinhljaaDoor
