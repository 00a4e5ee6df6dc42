/- Texts of this claim, one behind the other: part 6. -/
import Derived.Test.YtoedmmhiinhljaaGreatDoorU5CountOrbits
import Derived.Outline
import Derived.WalkLawsBesides
import Derived.WalkSpells
import Derived.BigQuiet
import Derived.Deep.QuietTactic
import Derived.Deep.RegionHeld3
import Derived.Deep.RegionWith
import Derived.Deep.DeepCutAuto
import Derived.Deep.CutBlock
import Derived.Deep.DrawnRows
import Derived.Shelf.Small.Bits
import Derived.Shelf.Strconv.Itoa0
import Derived.Shelf.Sort.Plain
import Derived.Ground.GgsProg
import Derived.Shelf.GgSortFunc.Insertion
import Derived.Shelf.GgSortFunc.Small
import Derived.Shelf.GgSortFunc.InsertionK
import Derived.Shelf.GgSortFunc.SmallK
import Derived.Shelf.GgSortFunc.Tiny
import Derived.Shelf.GgSortFunc.Compose
import Derived.Shelf.GgSortFunc.LotD
import Derived.Shelf.GgSortFunc.Pivot
import Derived.Shelf.GgSortFunc.Partition
import Derived.Shelf.GgSortFunc.Pdq
import Derived.Shelf.GgSortFunc.Whole
import Derived.Ground.GgtProg
import Derived.Shelf.GgSortMore.Stable
import Derived.Ground.Names2Prog
import Derived.Shelf.Slices.SearchI
import Derived.Shelf.Slices.In.SortNone
import Derived.Shelf.Slices.In.SortNone2
import Derived.Shelf.SlSortFunc.Xorshift
import Derived.Shelf.SlSortFuncK.ComposeK
import Derived.Shelf.SlSortFuncK.SiftDownK
import Derived.Shelf.SlSortFuncK.HeapSortK
import Derived.Shelf.SlSortFuncK.PartialInsertionK
import Derived.Shelf.SlSortFuncK.LotDK
import Derived.Shelf.SlSortFuncK.PivotK
import Derived.Shelf.SlSortFuncK.PartitionK
import Derived.Shelf.SlSortFunc.SiftDown
import Derived.Shelf.SlSortFunc.HeapSort
import Derived.Shelf.SlSortFunc.PartialInsertion
import Derived.Shelf.SlSortFuncK.PdqK
import Derived.Shelf.SlSortFuncK.WholeK
import Derived.Test.YtoedmmhiinhljaaGreatDoorProg
import Derived.Laws.EntriesVeiled
import Derived.Lib.ReflectliteSwap
/- The library's merge of two sorted segments: the search in the middle, the rotation, both halves. -/
namespace Go.Proofs.YtoedmmhiinhljaaGreatDoor
open Go.RowKit Go.Shelf
set_option linter.unusedVariables false
attribute [local go_sem ↓] Go.wp_at_zero Go.wp_at_succ


set_option maxRecDepth 100000 in
set_option maxHeartbeats 12800000 in
theorem symC (sf : Nat) (th : Value) (base g n c B : Nat) (hsw : SwT sf th base g n c B) (hn : n ≤ 1099511627776) (a m b : Nat) (d0 : Nat → Int) (w : World)
    (IH : ∀ (a' m' b' : Nat) (d' : Nat → Int) (w' : World), b' - a' < b - a → SS w' base g n c B d' → a' < m' → m' < b' → b' ≤ n → StM.Srt keyT a' m' d' → StM.Srt keyT m' b' d' → Calls Tryz.prog 102 #[.agg #[.func (.func 67) #[] #[.pointer (some ⟨B, 0, none⟩)], .func (.func sf) #[] #[.slice (some ⟨g, 0, none⟩) n c, th]], .int .i64 (a' : Int), .int .i64 (m' : Int), .int .i64 (b' : Int)] w' (StP w' base g n c B fun d2 => StM.Stb keyT a' b' d' d2 ∧ StM.Srt keyT a' b' d2))
    (h : SS w base g n c B d0) (ham : a + 1 < m) (hbm : m + 1 < b) (hb : b ≤ n) (h5 : StM.Srt keyT a m d0) (h6 : StM.Srt keyT m b d0) :
    Calls Tryz.prog 102 #[.agg #[.func (.func 67) #[] #[.pointer (some ⟨B, 0, none⟩)], .func (.func sf) #[] #[.slice (some ⟨g, 0, none⟩) n c, th]], .int .i64 (a : Int), .int .i64 (m : Int), .int .i64 (b : Int)] w (StP w base g n c B fun d' => StM.Stb keyT a b d0 d' ∧ StM.Srt keyT a b d') := by
  have hgl := h.lt.2
  have HS := Lib.hid (h.keep (bel_alloc (Below.refl _ _) (.cells #[.func (.func 67) #[] #[.pointer (some ⟨B, 0, none⟩)], .func (.func sf) #[] #[.slice (some ⟨g, 0, none⟩) n c, th]] 106)))
  have HSW := Lib.hid hsw
  have HBB := Lib.hid (Blk.new w 106 #[.func (.func 67) #[] #[.pointer (some ⟨B, 0, none⟩)], .func (.func sf) #[] #[.slice (some ⟨g, 0, none⟩) n c, th]])
  have HIH := Lib.hid @IH
  have H5 := Lib.hid h5
  have H6 := Lib.hid h6
  obtain ⟨W0, hW0⟩ : ∃ W0, (w.alloc (.cells #[.func (.func 67) #[] #[.pointer (some ⟨B, 0, none⟩)], .func (.func sf) #[] #[.slice (some ⟨g, 0, none⟩) n c, th]] 106)) = W0 := ⟨_, rfl⟩
  rw [hW0] at HS HBB
  have hw0 : w.grownBy W0 (some g) := by rw [← hW0]; exact grown_allocT (World.grownBy.refl _ _)
  have HW0 := Lib.hid hW0
  have HG0 := Lib.hid hw0
  obtain ⟨z, hz⟩ : ∃ z, m - a = z := ⟨_, rfl⟩
  have hzI : (m : Int) - (a : Int) = (z : Int) := by omega
  have hzw : IntKind.i64.wrap (z : Int) = (z : Int) := Go.IntWalk.i64_in _ (by omega)
  have hz1 : ((z : Int) == 1) = false := by rw [beq_eq_false_iff_ne]; omega
  obtain ⟨v, hv⟩ : ∃ v, b - m = v := ⟨_, rfl⟩
  have hvI : (b : Int) - (m : Int) = (v : Int) := by omega
  have hvw : IntKind.i64.wrap (v : Int) = (v : Int) := Go.IntWalk.i64_in _ (by omega)
  have hv1 : ((v : Int) == 1) = false := by rw [beq_eq_false_iff_ne]; omega
  obtain ⟨t, ht⟩ : ∃ t, a + b = t := ⟨_, rfl⟩
  have htI : (a : Int) + (b : Int) = (t : Int) := by omega
  have htw : IntKind.i64.wrap (t : Int) = (t : Int) := Go.IntWalk.i64_in _ (by omega)
  have htu : IntKind.u64.wrap (t : Int) = (t : Int) := by rw [IntKind.wrap_u64]; omega
  obtain ⟨mid, hmid⟩ : ∃ mid, t / 2 = mid := ⟨_, rfl⟩
  have hmidI : (t : Int) / 2 = (mid : Int) := by omega
  have hmidw : IntKind.i64.wrap (mid : Int) = (mid : Int) := Go.IntWalk.i64_in _ (by omega)
  have hmidu : IntKind.u64.wrap (mid : Int) = (mid : Int) := by rw [IntKind.wrap_u64]; omega
  obtain ⟨N, hN⟩ : ∃ N, mid + m = N := ⟨_, rfl⟩
  have hNI : (mid : Int) + (m : Int) = (N : Int) := by omega
  have hNw : IntKind.i64.wrap (N : Int) = (N : Int) := Go.IntWalk.i64_in _ (by omega)
  obtain ⟨p, hp⟩ : ∃ p, N - 1 = p := ⟨_, rfl⟩
  have hpI : (N : Int) - 1 = (p : Int) := by omega
  have hpw : IntKind.i64.wrap (p : Int) = (p : Int) := Go.IntWalk.i64_in _ (by omega)
  have hm2 : mid = (a + b) / 2 := by omega
  obtain ⟨s0, r0, hs0⟩ : ∃ s0 r0, StM.Mid a m b mid s0 r0 := by
    rcases Nat.lt_or_ge mid m with hc | hc
    · exact ⟨mid + m - b, mid, .inl ⟨hc, rfl, rfl⟩⟩
    · exact ⟨a, m, .inr ⟨hc, rfl, rfl⟩⟩
  have hsle := StM.Mid.le (by omega) (by omega) hm2 hs0
  have HMID := Lib.hid hs0
  have HM2 := Lib.hid hm2
  have HN := Lib.hid hN
  have HP := Lib.hid hp
  have hab : a < m := by omega
  have hmb : m < b := by omega
  have hmida : a < mid := by omega
  have hmidb : mid < b := by omega
  clear hsw h h5 h6 hz hv ht hmid hW0 hw0 IH hs0 hm2 hN hp
  go_enter Tryz.func102, Tryz.ntmps102
  go_upto_if 106 with fail
  go_cut [18, 19] (fun e18 e19 wc => e18 = .int .i64 (s0 : Int) ∧ e19 = .int .i64 (r0 : Int) ∧ wc = (w.alloc (.cells #[.func (.func 67) #[] #[.pointer (some ⟨B, 0, none⟩)], .func (.func sf) #[] #[.slice (some ⟨g, 0, none⟩) n c, th]] 106)))
  case first =>
    rcases HMID.out with ⟨hc, hs, hr⟩ | ⟨hc, hs, hr⟩
    · have hcI : (m : Int) > (mid : Int) := by omega
      have hsI : (N : Int) - (b : Int) = (s0 : Int) := by have := HN.out; omega
      have hsw : IntKind.i64.wrap (s0 : Int) = (s0 : Int) := Go.IntWalk.i64_in _ (by omega)
      have HR := Lib.hid hr
      clear hs hr hc
      go_wp2_with fail
      go_meet
      exact ⟨rfl, by rw [HR.out], rfl⟩
    · have hcI : ¬ (m : Int) > (mid : Int) := by omega
      have HSS := Lib.hid hs
      have HR := Lib.hid hr
      clear hs hr hc
      go_wp2_with fail
      go_meet
      exact ⟨by rw [HSS.out], by rw [HR.out], rfl⟩
  case rest =>
    obtain ⟨rfl, rfl, hwc⟩ := hcut
    rw [HW0.out] at hwc
    have hwc2 := hwc.symm
    clear hwc
    subst hwc2
    clear hzI hzw hz1 hvI hvw hv1 htI htw htu hmidI hmidw hmidu hNI
    go_wp2_with fail
    go_loopw [18, 19] (fun e8 e9 wr => ∃ (s r : Nat), s0 ≤ s ∧ s ≤ r ∧ r ≤ r0 ∧ e8 = .int .i64 s ∧ e9 = .int .i64 r ∧ (∀ k, s0 ≤ k → k < s → keyT (d0 k) ≤ keyT (d0 (mid + m - 1 - k))) ∧ (∀ k, r ≤ k → k < r0 → keyT (d0 (mid + m - 1 - k)) < keyT (d0 k)) ∧ SS wr base g n c B d0 ∧ W0.grownBy wr (some g)) (fun e8 e9 _ => (intOf e9).toNat - (intOf e8).toNat)
    case atStart => exact ⟨s0, r0, Nat.le_refl _, hsle.2.1, Nat.le_refl _, rfl, rfl, (fun k h1 h2 => by omega), (fun k h1 h2 => by omega), HS.out, World.grownBy.refl _ _⟩
    case round =>
      obtain ⟨s, r, hss, hsr, hrr, rfl, rfl, hlo, hhi, hown, hg⟩ := hrel
      have HLO := Lib.hid hlo
      have HHI := Lib.hid hhi
      have HOW := Lib.hid hown
      have HG := Lib.hid hg
      clear hlo hhi hown hg
      by_cases hlt : s < r
      · have hltI : (s : Int) < (r : Int) := by omega
        obtain ⟨u, hu⟩ : ∃ u, s + r = u := ⟨_, rfl⟩
        have huI : (s : Int) + (r : Int) = (u : Int) := by omega
        have huw : IntKind.i64.wrap (u : Int) = (u : Int) := Go.IntWalk.i64_in _ (by omega)
        have huu : IntKind.u64.wrap (u : Int) = (u : Int) := by rw [IntKind.wrap_u64]; omega
        obtain ⟨q, hq⟩ : ∃ q, u / 2 = q := ⟨_, rfl⟩
        have hqI : (u : Int) / 2 = (q : Int) := by omega
        have hqw : IntKind.i64.wrap (q : Int) = (q : Int) := Go.IntWalk.i64_in _ (by omega)
        have hqu : IntKind.u64.wrap (q : Int) = (q : Int) := by rw [IntKind.wrap_u64]; omega
        have hat := StM.Mid.at_ hab hmb HM2.out HMID.out (by omega : s0 ≤ q) (by omega : q < r0)
        have HQ := Lib.hid (show s ≤ q ∧ q < r by omega)
        obtain ⟨y, hy⟩ : ∃ y, p - q = y := ⟨_, rfl⟩
        have hyI : (p : Int) - (q : Int) = (y : Int) := by have := HN.out; have := HP.out; omega
        have hyw : IntKind.i64.wrap (y : Int) = (y : Int) := Go.IntWalk.i64_in _ (by have := HN.out; have := HP.out; omega)
        have hye : mid + m - 1 - q = y := by have := HN.out; have := HP.out; omega
        have HYE := Lib.hid hye
        have hBB := HBB.out.grown HG.out (fun e => by injection e with e; omega)
        have b0 : wr.cell? ⟨w.heap.size, 0, none⟩ = some (.func (.func 67) #[] #[.pointer (some ⟨B, 0, none⟩)]) := by simpa using hBB.cell 0
        have bl := hBB.lt
        have hqn : q < n := by omega
        have hyn : y < n := by omega
        clear hBB hu hq hat hy hye
        by_cases hl : keyT (d0 y) < keyT (d0 q)
        · have HHI2 := Lib.hid (StM.bs3_hi hab hmb HM2.out HMID.out H5.out H6.out (by have := HQ.out; omega : s0 ≤ q) (by have := HQ.out; omega) (by rw [HYE.out]; exact hl))
          have HL := Lib.hid hl
          clear hl
          go_wp2_with fail
          refine (lessT HOW.out hyn hqn true (by rw [decide_eq_true HL.out])).mono ?_
          rintro e w1 ⟨rfl, hb1⟩
          go_wp2_with fail
          exact ⟨⟨s, q, hss, HQ.out.1, by have := HQ.out; omega, rfl, rfl, HLO.out, HHI2.out, HOW.out.keep hb1, grown_below HG.out hb1⟩, by have := HQ.out; simp [intOf]; omega⟩
        · have HLO2 := Lib.hid (StM.bs3_lo hab hmb HM2.out HMID.out H5.out H6.out (by have := HQ.out; omega : s0 ≤ q) (by have := HQ.out; omega) (by rw [HYE.out]; exact hl))
          have HL := Lib.hid hl
          clear hl
          go_wp2_with fail
          refine (lessT HOW.out hyn hqn false (by rw [decide_eq_false HL.out])).mono ?_
          rintro e w1 ⟨rfl, hb1⟩
          go_wp2_with fail
          exact ⟨⟨q + 1, r, by have := HQ.out; omega, by have := HQ.out; omega, hrr, by go_num, rfl, HLO2.out, HHI.out, HOW.out.keep hb1, grown_below HG.out hb1⟩, by have := HQ.out; simp [intOf]; omega⟩
      · obtain rfl : s = r := by omega
        have hltI : ¬ (s : Int) < (s : Int) := by omega
        obtain ⟨f1, f2, f3, f4, f5, f6, f7⟩ := StM.start_lo hab hmb HM2.out HMID.out hss hrr H5.out H6.out HLO.out HHI.out
        obtain ⟨E, hE⟩ : ∃ E, N - s = E := ⟨_, rfl⟩
        have hEe : mid + m - s = E := by have := HN.out; omega
        rw [hEe] at f3 f4 f5 f6 f7
        have hEI : (N : Int) - (s : Int) = (E : Int) := by have := HN.out; omega
        have hEw : IntKind.i64.wrap (E : Int) = (E : Int) := Go.IntWalk.i64_in _ (by omega)
        obtain ⟨k1, k2, k3, k4, k5, k6⟩ := StM.half f1 f2 f3 f4 f5 H5.out H6.out f6 f7
        have F6 := Lib.hid f6
        have F7 := Lib.hid f7
        have F5 := Lib.hid f5
        have K2 := Lib.hid k2
        have K3 := Lib.hid k3
        have K4 := Lib.hid k4
        have K5 := Lib.hid k5
        have hsmid : s ≤ mid := by omega
        have hmidE : mid ≤ E := by omega
        clear f5 f6 f7 k1 k2 k3 k4 k5 k6 hE hEe HLO HHI
        have hBB := HBB.out.grown HG.out (fun e => by injection e with e; omega)
        have b0 : wr.cell? ⟨w.heap.size, 0, none⟩ = some (.func (.func 67) #[] #[.pointer (some ⟨B, 0, none⟩)]) := by simpa using hBB.cell 0
        have b1 : wr.cell? ⟨w.heap.size, 1, none⟩ = some (.func (.func sf) #[] #[.slice (some ⟨g, 0, none⟩) n c, th]) := by simpa using hBB.cell 1
        have bl := hBB.lt
        clear hBB
        go_upto_region 40 with fail
        go_cut [145] (fun ec wx => ec = .bool (decide ((s : Int) < (m : Int)) && decide ((m : Int) < (E : Int))) ∧ wx = wr)
        case first =>
          by_cases hc1 : (s : Int) < (m : Int)
          · by_cases hc2 : (m : Int) < (E : Int)
            · go_wp2_with fail
              go_meet
              exact ⟨by rw [decide_eq_true (by omega : (s : Int) < (m : Int)), decide_eq_true (by omega : (m : Int) < (E : Int))]; rfl, rfl⟩
            · go_wp2_with fail
              go_meet
              exact ⟨by rw [decide_eq_true (by omega : (s : Int) < (m : Int)), decide_eq_false (by omega : ¬ (m : Int) < (E : Int))]; rfl, rfl⟩
          · go_wp2_with fail
            go_meet
            exact ⟨by rw [decide_eq_false (by omega : ¬ (s : Int) < (m : Int))]; rfl, rfl⟩
        case rest =>
        obtain ⟨rfl, hwx⟩ := hcut
        have hwx2 := hwx.symm
        clear hwx
        subst hwx2
        go_upto_if 145 with fail
        go_cut [22] (fun e22 wd => e22 = .int .i64 (E : Int) ∧ SS wd base g n c B (StM.rot d0 s m E) ∧ W0.grownBy wd (some g))
        case first =>
          by_cases hc1 : s < m
          · have hc1I : (s : Int) < (m : Int) := by omega
            by_cases hc2 : m < E
            · have hc2I : (m : Int) < (E : Int) := by omega
              go_wp2_with fail
              refine (rotT sf th base g n c B HSW.out s m E d0 _ HOW.out hc1 hc2 (by omega) hn).mono ?_
              rintro e w1 ⟨rfl, d1, hS1, hg1, rfl⟩
              have HS1 := Lib.hid hS1
              have HG1 := Lib.hid (HG.out.trans hg1)
              clear hS1 hg1
              go_wp2_with fail
              go_meet
              exact ⟨rfl, HS1.out, HG1.out⟩
            · have hc2I : ¬ (m : Int) < (E : Int) := by omega
              have HRI : Hid (StM.rot d0 s m E = d0) := by show _ = _; rw [show E = m by omega]; exact StM.rot_idr _ _ _ f2
              clear hc2
              go_wp2_with fail
              go_meet
              exact ⟨rfl, by rw [HRI.out]; exact HOW.out, HG.out⟩
          · have hc1I : ¬ (s : Int) < (m : Int) := by omega
            have HRI : Hid (StM.rot d0 s m E = d0) := by show _ = _; rw [show s = m by omega]; exact StM.rot_idl _ _ _ f3
            clear hc1
            go_wp2_with fail
            go_meet
            exact ⟨rfl, by rw [HRI.out]; exact HOW.out, HG.out⟩
        case rest =>
          clear HOW HG b0 b1 bl
          obtain ⟨rfl, hown, hg⟩ := hcut
          obtain ⟨d1, hd1⟩ : ∃ d1, StM.rot d0 s m E = d1 := ⟨_, rfl⟩
          rw [hd1] at hown K2 K3 K4 K5
          have HD1 := Lib.hid hd1
          have HOW := Lib.hid hown
          have HG := Lib.hid hg
          clear hown hg hd1
          obtain ⟨wd, hwd⟩ : ∃ wd, wd = wc := ⟨_, rfl⟩
          subst hwd
          have hBB := HBB.out.grown HG.out (fun e => by injection e with e; omega)
          have b0 : wd.cell? ⟨w.heap.size, 0, none⟩ = some (.func (.func 67) #[] #[.pointer (some ⟨B, 0, none⟩)]) := by simpa using hBB.cell 0
          have b1 : wd.cell? ⟨w.heap.size, 1, none⟩ = some (.func (.func sf) #[] #[.slice (some ⟨g, 0, none⟩) n c, th]) := by simpa using hBB.cell 1
          have bl := hBB.lt
          clear hBB
          go_upto_region 42 with fail
          go_cut [158] (fun ec wx => ec = .bool (decide ((a : Int) < (s : Int)) && decide ((s : Int) < (mid : Int))) ∧ wx = wd)
          case first =>
            by_cases hc1 : (a : Int) < (s : Int)
            · by_cases hc2 : (s : Int) < (mid : Int)
              · go_wp2_with fail
                go_meet
                exact ⟨by rw [decide_eq_true (by omega : (a : Int) < (s : Int)), decide_eq_true (by omega : (s : Int) < (mid : Int))]; rfl, rfl⟩
              · go_wp2_with fail
                go_meet
                exact ⟨by rw [decide_eq_true (by omega : (a : Int) < (s : Int)), decide_eq_false (by omega : ¬ (s : Int) < (mid : Int))]; rfl, rfl⟩
            · go_wp2_with fail
              go_meet
              exact ⟨by rw [decide_eq_false (by omega : ¬ (a : Int) < (s : Int))]; rfl, rfl⟩
          case rest =>
          obtain ⟨rfl, hwx⟩ := hcut
          have hwx2 := hwx.symm
          clear hwx
          subst hwx2
          go_upto_if 158 with fail
          go_cut [22] (fun e22 wd => e22 = .int .i64 (E : Int) ∧ ∃ d2, SS wd base g n c B d2 ∧ W0.grownBy wd (some g) ∧ StM.Stb keyT a mid d1 d2 ∧ StM.Srt keyT a mid d2)
          case first =>
            by_cases hc1 : a < s
            · have hc1I : (a : Int) < (s : Int) := by omega
              by_cases hc2 : s < mid
              · have hc2I : (s : Int) < (mid : Int) := by omega
                go_wp2_with fail
                refine (HIH.out a s mid d1 _ (by omega) HOW.out hc1 hc2 (by omega) K2.out K3.out).mono ?_
                rintro e w1 ⟨rfl, d2, hS1, hg1, t1, t2⟩
                have HS1 := Lib.hid hS1
                have HG1 := Lib.hid (HG.out.trans hg1)
                have T1 := Lib.hid t1
                have T2 := Lib.hid t2
                clear hS1 hg1 t1 t2
                go_wp2_with fail
                go_meet
                exact ⟨rfl, d2, HS1.out, HG1.out, T1.out, T2.out⟩
              · have hc2I : ¬ (s : Int) < (mid : Int) := by omega
                have T2 : Hid (StM.Srt keyT a mid d1) := by show StM.Srt _ _ _ _; rw [show mid = s by omega]; exact K2.out
                clear hc2
                go_wp2_with fail
                go_meet
                exact ⟨rfl, d1, HOW.out, HG.out, StM.Stb.refl _ _ _, T2.out⟩
            · have hc1I : ¬ (a : Int) < (s : Int) := by omega
              have T2 : Hid (StM.Srt keyT a mid d1) := by show StM.Srt _ _ _ _; rw [show a = s by omega]; exact K3.out
              clear hc1
              go_wp2_with fail
              go_meet
              exact ⟨rfl, d1, HOW.out, HG.out, StM.Stb.refl _ _ _, T2.out⟩
          case rest =>
            clear HOW HG b0 b1 bl
            obtain ⟨rfl, d2, hown, hg, t1, t2⟩ := hcut
            have HOW := Lib.hid hown
            have HG := Lib.hid hg
            have T1 := Lib.hid t1
            have T2 := Lib.hid t2
            have T3 : Hid (StM.Srt keyT mid E d2) := K4.out.eq fun k h1 h2 => T1.out.out k (.inr h1)
            have T4 : Hid (StM.Srt keyT E b d2) := K5.out.eq fun k h1 h2 => T1.out.out k (.inr (by omega))
            have FIN : Hid (∀ d3, StM.Stb keyT mid b d2 d3 ∧ StM.Srt keyT mid b d3 → StM.Stb keyT a b d0 d3 ∧ StM.Srt keyT a b d3) := fun d3 h3 =>
              StM.merge3 f1 f2 f3 f4 F5.out H5.out H6.out F6.out F7.out (by rw [HD1.out]; exact ⟨T1.out, T2.out⟩) h3
            clear hown hg t1 t2
            obtain ⟨we, hwe⟩ : ∃ we, we = wc := ⟨_, rfl⟩
            subst hwe
            have hBB := HBB.out.grown HG.out (fun e => by injection e with e; omega)
            have b0 : we.cell? ⟨w.heap.size, 0, none⟩ = some (.func (.func 67) #[] #[.pointer (some ⟨B, 0, none⟩)]) := by simpa using hBB.cell 0
            have b1 : we.cell? ⟨w.heap.size, 1, none⟩ = some (.func (.func sf) #[] #[.slice (some ⟨g, 0, none⟩) n c, th]) := by simpa using hBB.cell 1
            have bl := hBB.lt
            clear hBB
            by_cases hc1 : mid < E
            · have hc1I : (mid : Int) < (E : Int) := by omega
              by_cases hc2 : E < b
              · have hc2I : (E : Int) < (b : Int) := by omega
                go_wp2_with fail
                refine (HIH.out mid E b d2 _ (by omega) HOW.out hc1 hc2 hb T3.out T4.out).mono ?_
                rintro e w1 ⟨rfl, d3, hS1, hg1, t1, t2⟩
                have HS1 := Lib.hid hS1
                have HG1 := Lib.hid (HG0.out.trans (HG.out.trans hg1))
                have T5 := Lib.hid (FIN.out d3 ⟨t1, t2⟩)
                clear hS1 hg1 t1 t2
                go_wp2_with fail
                go_end0
                exact ⟨rfl, d3, HS1.out, HG1.out, T5.out⟩
              · have hc2I : ¬ (E : Int) < (b : Int) := by omega
                have T5 := Lib.hid (FIN.out d2 ⟨StM.Stb.refl _ _ _, by rw [show b = E by omega]; exact T3.out⟩)
                clear hc2
                go_wp2_with fail
                go_end0
                exact ⟨rfl, d2, HOW.out, HG0.out.trans HG.out, T5.out⟩
            · have hc1I : ¬ (mid : Int) < (E : Int) := by omega
              have T5 := Lib.hid (FIN.out d2 ⟨StM.Stb.refl _ _ _, by rw [show mid = E by omega]; exact T4.out⟩)
              clear hc1
              go_wp2_with fail
              go_end0
              exact ⟨rfl, d2, HOW.out, HG0.out.trans HG.out, T5.out⟩
/-- The merge. -/
theorem symT (sf : Nat) (th : Value) (base g n c B : Nat) (hsw : SwT sf th base g n c B) (hn : n ≤ 1099511627776) : ∀ (k a m b : Nat) (d0 : Nat → Int) (w : World), b - a ≤ k → SS w base g n c B d0 → a < m → m < b → b ≤ n → StM.Srt keyT a m d0 → StM.Srt keyT m b d0 →
    Calls Tryz.prog 102 #[.agg #[.func (.func 67) #[] #[.pointer (some ⟨B, 0, none⟩)], .func (.func sf) #[] #[.slice (some ⟨g, 0, none⟩) n c, th]], .int .i64 (a : Int), .int .i64 (m : Int), .int .i64 (b : Int)] w (StP w base g n c B fun d' => StM.Stb keyT a b d0 d' ∧ StM.Srt keyT a b d')
  | 0, a, m, b, d0, w, hk, h, h1, h2, h3, h5, h6 => by omega
  | k + 1, a, m, b, d0, w, hk, h, h1, h2, h3, h5, h6 => by
    by_cases c1 : m = a + 1
    · exact symA sf th base g n c B hsw hn a m b d0 w h c1 h2 h3 h6
    · by_cases c2 : b = m + 1
      · exact symB sf th base g n c B hsw hn a m b d0 w h (by omega) c2 h3 h5
      · exact symC sf th base g n c B hsw hn a m b d0 w (fun a' m' b' d' w' hlt => symT sf th base g n c B hsw hn k a' m' b' d' w' (by omega)) h (by omega) (by omega) h3 h5 h6
end Go.Proofs.YtoedmmhiinhljaaGreatDoor

/- The library's insertion sort, which is stable. -/
namespace Go.Proofs.YtoedmmhiinhljaaGreatDoor
open Go.RowKit Go.Shelf
set_option linter.unusedVariables false
attribute [local go_sem ↓] Go.wp_at_zero Go.wp_at_succ

set_option maxRecDepth 100000 in
set_option maxHeartbeats 3200000 in
theorem insT (sf : Nat) (th : Value) (base g n c B : Nat) (hsw : SwT sf th base g n c B) (a b : Nat) (d0 : Nat → Int) (w : World) (h : SS w base g n c B d0) (ha : a ≤ b) (hb : b ≤ n) (hn : n ≤ 1099511627776) :
    Calls Tryz.prog 101 #[.agg #[.func (.func 67) #[] #[.pointer (some ⟨B, 0, none⟩)], .func (.func sf) #[] #[.slice (some ⟨g, 0, none⟩) n c, th]], .int .i64 (a : Int), .int .i64 (b : Int)] w (StP w base g n c B fun d' => StM.Stb keyT a b d0 d' ∧ StM.Srt keyT a b d') := by
  have hgl := h.lt.2
  have HS := Lib.hid h
  have HSW := Lib.hid hsw
  have HBB := Lib.hid (Blk.new w 106 #[.func (.func 67) #[] #[.pointer (some ⟨B, 0, none⟩)], .func (.func sf) #[] #[.slice (some ⟨g, 0, none⟩) n c, th]])
  clear hsw h
  go_enter Tryz.func101, Tryz.ntmps101
  go_wp2
  go_loopw [6] (fun e6 wr => ∃ (i : Nat) (d : Nat → Int), a + 1 ≤ i ∧ (i ≤ b ∨ i = a + 1) ∧ e6 = .int .i64 i ∧ StM.Stb keyT a b d0 d ∧ StM.Srt keyT a i d ∧ SS wr base g n c B d ∧ (w.alloc (.cells #[.func (.func 67) #[] #[.pointer (some ⟨B, 0, none⟩)], .func (.func sf) #[] #[.slice (some ⟨g, 0, none⟩) n c, th]] 106)).grownBy wr (some g)) (fun e6 _ => b - (intOf e6).toNat)
  case atStart => exact ⟨a + 1, d0, Nat.le_refl _, .inr rfl, by go_num, StM.Stb.refl _ _ _, StM.Srt.one _ _ _ (Nat.le_refl _), HS.out.keep (by (repeat (first | with_reducible exact Below.refl _ _ | with_reducible assumption | with_reducible apply bel_alloc | with_reducible apply bel_drew | with_reducible apply bel_drewN | ((with_reducible refine bel_set ?_ ?_); rotate_left; (simp <;> omega)) | (with_reducible refine bel_trans ?_ (by with_reducible assumption))))), World.grownBy.refl _ _⟩
  case round =>
    obtain ⟨i, d, hi1, hin, rfl, hst, hord, hown, hg⟩ := hrel
    have HST := Lib.hid hst
    have HOR := Lib.hid hord
    have HOW := Lib.hid hown
    have HG := Lib.hid hg
    clear hst hord hown hg
    by_cases hlt : i < b
    · have hiI : (i : Int) < (b : Int) := by omega
      clear hin
      go_wp2
      go_loopw [7] (fun e7 wr => ∃ (j : Nat) (d : Nat → Int), a ≤ j ∧ j ≤ i ∧ e7 = .int .i64 j ∧ StM.Stb keyT a b d0 d ∧ StM.Nr keyT a i j d ∧ SS wr base g n c B d ∧ (w.alloc (.cells #[.func (.func 67) #[] #[.pointer (some ⟨B, 0, none⟩)], .func (.func sf) #[] #[.slice (some ⟨g, 0, none⟩) n c, th]] 106)).grownBy wr (some g)) (fun e7 _ => (intOf e7).toNat)
      case atStart => exact ⟨i, d, by omega, Nat.le_refl _, rfl, HST.out, StM.Nr.start HOR.out, HOW.out, HG.out⟩
      case round =>
        clear HST HOR HOW HG
        obtain ⟨j, d, haj, hji, rfl, hst, hnear, hown, hg⟩ := hrel
        have HST := Lib.hid hst
        have HN := Lib.hid hnear
        have HOW := Lib.hid hown
        have HG := Lib.hid hg
        clear hst hnear hown hg
        by_cases hj0 : a < j
        · obtain ⟨p, hp⟩ : ∃ p, j = p + 1 := ⟨j - 1, by omega⟩
          have hjI : (j : Int) > (a : Int) := by omega
          have hpI : (j : Int) - 1 = (p : Int) := by omega
          have hpw : IntKind.i64.wrap (p : Int) = (p : Int) := Go.IntWalk.i64_in _ (by omega)
          have HP := Lib.hid hp
          have hBB := HBB.out.grown HG.out (fun e => by injection e with e; omega)
          have b0 : wr.cell? ⟨w.heap.size, 0, none⟩ = some (.func (.func 67) #[] #[.pointer (some ⟨B, 0, none⟩)]) := by simpa using hBB.cell 0
          have b1 : wr.cell? ⟨w.heap.size, 1, none⟩ = some (.func (.func sf) #[] #[.slice (some ⟨g, 0, none⟩) n c, th]) := by simpa using hBB.cell 1
          have bl := hBB.lt
          have HBW := Lib.hid hBB
          have hjn : j < n := by omega
          have hpn : p < n := by omega
          have hap : a ≤ p := by omega
          clear hBB hp
          by_cases hbf : keyT (d j) < keyT (d p)
          · have HBF := Lib.hid hbf
            clear hbf
            go_wp2_with fail
            refine (lessT HOW.out hjn hpn true (by rw [decide_eq_true HBF.out])).mono ?_
            rintro e w1 ⟨rfl, hb1⟩
            have hBB1 := HBW.out.below hb1
            have c1 : w1.cell? ⟨w.heap.size, 1, none⟩ = some (.func (.func sf) #[] #[.slice (some ⟨g, 0, none⟩) n c, th]) := by simpa using hBB1.cell 1
            have cl := hBB1.lt
            obtain ⟨w2, hrun, ho2, hg2⟩ := HSW.out w1 d j p (HOW.out.keep hb1) hjn hpn
            have HO2 := Lib.hid ho2
            have HG2 := Lib.hid (hg2 _ (grown_below HG.out hb1))
            have HN2 : Hid (StM.Nr keyT a i p (StM.sw2 d j p)) := HN.out.step HP.out hap hji HBF.out
            have HS2 : Hid (StM.Stb keyT a b d0 (StM.sw2 d j p)) := HST.out.trans (StM.nb2 HP.out HBF.out hap (by omega))
            clear hBB1 ho2 hg2 b0 b1 bl
            go_wp2_with fail
            exact ⟨⟨p, StM.sw2 d j p, by omega, by omega, rfl, HS2.out, HN2.out, HO2.out, HG2.out⟩, by simp [intOf]; omega⟩
          · have HBF := Lib.hid hbf
            clear hbf
            go_wp2_with fail
            refine (lessT HOW.out hjn hpn false (by rw [decide_eq_false HBF.out])).mono ?_
            rintro e w1 ⟨rfl, hb1⟩
            have HO2 : Hid (StM.Srt keyT a (i + 1) d) := HN.out.stop haj hji (.inr ⟨p, HP.out, Nat.le_of_not_lt HBF.out⟩)
            go_wp2_with fail
            exact ⟨⟨i + 1, d, by omega, .inl (by omega), by go_num, HST.out, HO2.out, HOW.out.keep hb1, grown_below HG.out hb1⟩, by simp [intOf]; omega⟩
        · have hja : ¬ (j : Int) > (a : Int) := by omega
          have HO2 : Hid (StM.Srt keyT a (i + 1) d) := HN.out.stop haj hji (.inl (by omega))
          clear hj0
          go_wp2_with fail
          exact ⟨⟨i + 1, d, by omega, .inl (by omega), by go_num, HST.out, HO2.out, HOW.out, HG.out⟩, by simp [intOf]; omega⟩
    · have hiI : ¬ (i : Int) < (b : Int) := by omega
      clear hin
      go_wp2
      go_end0
      exact ⟨rfl, d, HOW.out, grown_allocT HG.out, HST.out, HOR.out.sub (Nat.le_refl _) (by omega)⟩
end Go.Proofs.YtoedmmhiinhljaaGreatDoor

/- The library's stable sort of a slice of ints, with the program's test. -/
namespace Go.Proofs.YtoedmmhiinhljaaGreatDoor
open Go.RowKit Go.Shelf
set_option linter.unusedVariables false
attribute [local go_sem ↓] Go.wp_at_zero Go.wp_at_succ


set_option maxRecDepth 100000 in
set_option maxHeartbeats 12800000 in
theorem stabT (sf : Nat) (th : Value) (base g n c B : Nat) (hsw : SwT sf th base g n c B) (hn : n ≤ 1099511627776) (d0 : Nat → Int) (w : World) (h : SS w base g n c B d0) :
    Calls Tryz.prog 81 #[.agg #[.func (.func 67) #[] #[.pointer (some ⟨B, 0, none⟩)], .func (.func sf) #[] #[.slice (some ⟨g, 0, none⟩) n c, th]], .int .i64 (n : Int)] w (StP w base g n c B fun d' => StM.Stb keyT 0 n d0 d' ∧ StM.Srt keyT 0 n d') := by
  have hgl := h.lt.2
  have HS := Lib.hid (h.keep (bel_alloc (Below.refl _ _) (.cells #[.func (.func 67) #[] #[.pointer (some ⟨B, 0, none⟩)], .func (.func sf) #[] #[.slice (some ⟨g, 0, none⟩) n c, th]] 106)))
  have HSW := Lib.hid hsw
  have HBB := Lib.hid (Blk.new w 106 #[.func (.func 67) #[] #[.pointer (some ⟨B, 0, none⟩)], .func (.func sf) #[] #[.slice (some ⟨g, 0, none⟩) n c, th]])
  obtain ⟨W0, hW0⟩ : ∃ W0, (w.alloc (.cells #[.func (.func 67) #[] #[.pointer (some ⟨B, 0, none⟩)], .func (.func sf) #[] #[.slice (some ⟨g, 0, none⟩) n c, th]] 106)) = W0 := ⟨_, rfl⟩
  rw [hW0] at HS HBB
  have hw0 : w.grownBy W0 (some g) := by rw [← hW0]; exact grown_allocT (World.grownBy.refl _ _)
  have HW0 := Lib.hid hW0
  have HG0 := Lib.hid hw0
  have hneg : some w.heap.size ≠ some g := fun e => by injection e with e; omega
  clear hsw h hW0 hw0
  go_enter Tryz.func81, Tryz.ntmps81
  go_wp2_with fail
  rw [HW0.out]
  go_loopw [5, 6] (fun e5 e6 wr => ∃ (a : Nat) (d : Nat → Int), a ≤ n ∧ 20 ∣ a ∧ e5 = .int .i64 a ∧ e6 = .int .i64 ((a + 20 : Nat) : Int) ∧ StM.Stb keyT 0 n d0 d ∧ StM.Bs keyT 20 n a d ∧ SS wr base g n c B d ∧ W0.grownBy wr (some g)) (fun e5 _ _ => n - (intOf e5).toNat)
  case atStart => exact ⟨0, d0, Nat.zero_le _, Nat.dvd_zero _, rfl, rfl, StM.Stb.refl _ _ _, StM.Bs.zero _ _ _, HS.out, World.grownBy.refl _ _⟩
  case round =>
    obtain ⟨a, d, han, hda, rfl, rfl, hst, hbs, hown, hg⟩ := hrel
    have HDA := Lib.hid hda
    have HST := Lib.hid hst
    have HBS := Lib.hid hbs
    have HOW := Lib.hid hown
    have HG := Lib.hid hg
    clear hda hst hbs hown hg
    obtain ⟨b, hb⟩ : ∃ b, a + 20 = b := ⟨_, rfl⟩
    rw [hb]
    have HB := Lib.hid hb
    have hab : a ≤ b := by omega
    have hbn : b ≤ 2199023255552 := by omega
    have hBB := HBB.out.grown HG.out hneg
    have b0 : wr.cell? ⟨w.heap.size, 0, none⟩ = some (.func (.func 67) #[] #[.pointer (some ⟨B, 0, none⟩)]) := by simpa using hBB.cell 0
    have b1 : wr.cell? ⟨w.heap.size, 1, none⟩ = some (.func (.func sf) #[] #[.slice (some ⟨g, 0, none⟩) n c, th]) := by simpa using hBB.cell 1
    have bl := hBB.lt
    clear hBB hb
    by_cases hlt : b ≤ n
    · have hltI : (b : Int) ≤ (n : Int) := by omega
      go_wp2_with fail
      refine (insT sf th base g n c B HSW.out a b d _ HOW.out hab hlt hn).mono ?_
      rintro e w1 ⟨rfl, d1, hS1, hg1, t1, t2⟩
      have HST1 : Hid (StM.Stb keyT 0 n d0 d1) := HST.out.wide t1 hab hlt
      have HBS1 : Hid (StM.Bs keyT 20 n b d1) := HBS.out.step (by decide) HDA.out (by have := HB.out; omega) (by have := HB.out; omega) t1 t2
      have HS1 := Lib.hid hS1
      have HG1 := Lib.hid (HG.out.trans hg1)
      have HDB : Hid (20 ∣ b) := by show 20 ∣ b; rw [← HB.out]; exact Nat.dvd_add HDA.out (Nat.dvd_refl _)
      clear hS1 hg1 t1 t2
      go_wp2_with fail
      exact ⟨⟨b, d1, hlt, HDB.out, rfl, by go_num, HST1.out, HBS1.out, HS1.out, HG1.out⟩, by have := HB.out; simp [intOf]; omega⟩
    · have hltI : ¬ (b : Int) ≤ (n : Int) := by omega
      go_wp2_with fail
      refine (insT sf th base g n c B HSW.out a n d _ HOW.out han (Nat.le_refl _) hn).mono ?_
      rintro e w1 ⟨rfl, d1, hS1, hg1, t1, t2⟩
      have HST1 : Hid (StM.Stb keyT 0 n d0 d1) := HST.out.wide t1 han (Nat.le_refl _)
      have HBS1 : Hid (StM.Bs keyT 20 n n d1) := HBS.out.step (by decide) HDA.out (by have := HB.out; omega) (by have := HB.out; omega) t1 t2
      have HS1 := Lib.hid hS1
      have HG1 := Lib.hid (HG.out.trans hg1)
      clear hS1 hg1 t1 t2 HST HBS HOW HG b0 b1 bl
      go_wp2_with fail
      go_loopw [4] (fun e4 wq => ∃ (s : Nat) (d : Nat → Int), 20 ≤ s ∧ s ≤ 2199023255552 ∧ e4 = .int .i64 s ∧ StM.Stb keyT 0 n d0 d ∧ StM.Bs keyT s n n d ∧ SS wq base g n c B d ∧ W0.grownBy wq (some g)) (fun e4 _ => n - (intOf e4).toNat)
      case atStart => exact ⟨20, d1, Nat.le_refl _, by omega, rfl, HST1.out, HBS1.out, HS1.out, HG1.out⟩
      case round =>
        clear HST1 HBS1 HS1 HG1 hltI hlt HB HDA hab hbn han
        obtain ⟨s, d2, hs20, hsm, rfl, hst, hbs, hown, hg⟩ := hrel
        have HST := Lib.hid hst
        have HBS := Lib.hid hbs
        have HOW := Lib.hid hown
        have HG := Lib.hid hg
        clear hst hbs hown hg
        by_cases hsn : s < n
        · have hsnI : (s : Int) < (n : Int) := by omega
          obtain ⟨s2, hs2⟩ : ∃ s2, 2 * s = s2 := ⟨_, rfl⟩
          have hs2I : 2 * (s : Int) = (s2 : Int) := by omega
          have hs2J : (s : Int) * 2 = (s2 : Int) := by omega
          have hs2w : IntKind.i64.wrap (s2 : Int) = (s2 : Int) := Go.IntWalk.i64_in _ (by omega)
          have HS2 := Lib.hid hs2
          have hs2m : s2 ≤ 2199023255552 := by omega
          clear hs2
          go_wp2_with fail
          go_loopw [5, 6] (fun e5 e6 wq => ∃ (a : Nat) (d : Nat → Int), a ≤ n ∧ s2 ∣ a ∧ e5 = .int .i64 a ∧ e6 = .int .i64 ((a + s2 : Nat) : Int) ∧ StM.Stb keyT 0 n d0 d ∧ StM.Bs keyT s2 n a d ∧ StM.Rs keyT s n a d ∧ SS wq base g n c B d ∧ W0.grownBy wq (some g)) (fun e5 _ _ => n - (intOf e5).toNat)
          case atStart => exact ⟨0, d2, Nat.zero_le _, Nat.dvd_zero _, rfl, by rw [Nat.zero_add], HST.out, StM.Bs.zero _ _ _, StM.Rs.of HBS.out, HOW.out, HG.out⟩
          case round =>
            clear HST HBS HOW HG
            obtain ⟨a, d, han, hda, rfl, rfl, hst, hbs, hrs, hown, hg⟩ := hrel
            have hda2 : 2 * s ∣ a := by rw [HS2.out]; exact hda
            have HDA := Lib.hid hda
            have HDA2 := Lib.hid hda2
            have HST := Lib.hid hst
            have HBS := Lib.hid hbs
            have HRS := Lib.hid hrs
            have HOW := Lib.hid hown
            have HG := Lib.hid hg
            clear hda hda2 hst hbs hrs hown hg
            obtain ⟨b, hb⟩ : ∃ b, a + s2 = b := ⟨_, rfl⟩
            obtain ⟨m, hm⟩ : ∃ m, a + s = m := ⟨_, rfl⟩
            rw [hb]
            have HB := Lib.hid hb
            have HM := Lib.hid hm
            have hs2e := HS2.out
            have hmI : (a : Int) + (s : Int) = (m : Int) := by omega
            have hmw : IntKind.i64.wrap (m : Int) = (m : Int) := Go.IntWalk.i64_in _ (by omega)
            have ham : a < m := by omega
            have hmb : m < b := by omega
            have hbn : b ≤ 4398046511104 := by omega
            have hBB := HBB.out.grown HG.out hneg
            have b0 : wr.cell? ⟨w.heap.size, 0, none⟩ = some (.func (.func 67) #[] #[.pointer (some ⟨B, 0, none⟩)]) := by simpa using hBB.cell 0
            have b1 : wr.cell? ⟨w.heap.size, 1, none⟩ = some (.func (.func sf) #[] #[.slice (some ⟨g, 0, none⟩) n c, th]) := by simpa using hBB.cell 1
            have bl := hBB.lt
            clear hBB hb hm hs2e
            by_cases hlt : b ≤ n
            · have hltI : (b : Int) ≤ (n : Int) := by omega
              have L1 : Hid (StM.Srt keyT a m d) := by show StM.Srt _ _ _ _; rw [← HM.out]; exact HRS.out.left HDA2.out (by rw [HM.out]; omega) (by omega)
              have L2 : Hid (StM.Srt keyT m b d) := by show StM.Srt _ _ _ _; have h := HRS.out.right (b := b) HDA2.out (by rw [HM.out]; omega) (by have := HB.out; have := HS2.out; omega); rw [HM.out] at h; exact h
              go_wp2_with fail
              refine (symT sf th base g n c B HSW.out hn (b - a) a m b d _ (Nat.le_refl _) HOW.out ham hmb hlt L1.out L2.out).mono ?_
              rintro e w1 ⟨rfl, d3, hS1, hg1, t1, t2⟩
              have HST1 : Hid (StM.Stb keyT 0 n d0 d3) := HST.out.wide t1 (by omega) hlt
              have HBS1 : Hid (StM.Bs keyT s2 n b d3) := HBS.out.step (by omega) HDA.out (by have := HB.out; omega) (by have := HB.out; omega) t1 t2
              have HRS1 : Hid (StM.Rs keyT s n b d3) := HRS.out.step t1 (Nat.le_refl _) (by omega)
              have HS1 := Lib.hid hS1
              have HG1 := Lib.hid (HG.out.trans hg1)
              have HDB : Hid (s2 ∣ b) := by show s2 ∣ b; rw [← HB.out]; exact Nat.dvd_add HDA.out (Nat.dvd_refl _)
              clear hS1 hg1 t1 t2
              go_wp2_with fail
              exact ⟨⟨b, d3, hlt, HDB.out, rfl, by go_num, HST1.out, HBS1.out, HRS1.out, HS1.out, HG1.out⟩, by have := HB.out; simp [intOf]; omega⟩
            · have hltI : ¬ (b : Int) ≤ (n : Int) := by omega
              by_cases hmn : m < n
              · have hmnI : (m : Int) < (n : Int) := by omega
                have L1 : Hid (StM.Srt keyT a m d) := by show StM.Srt _ _ _ _; rw [← HM.out]; exact HRS.out.left HDA2.out (by rw [HM.out]; omega) (by omega)
                have L2 : Hid (StM.Srt keyT m n d) := by show StM.Srt _ _ _ _; have h := HRS.out.right (b := n) HDA2.out (by rw [HM.out]; omega) (by have := HB.out; have := HS2.out; omega); rw [HM.out] at h; exact h
                go_wp2_with fail
                refine (symT sf th base g n c B HSW.out hn (n - a) a m n d _ (Nat.le_refl _) HOW.out ham hmn (Nat.le_refl _) L1.out L2.out).mono ?_
                rintro e w1 ⟨rfl, d3, hS1, hg1, t1, t2⟩
                have HST1 : Hid (StM.Stb keyT 0 n d0 d3) := HST.out.wide t1 (by omega) (Nat.le_refl _)
                have HBS1 : Hid (StM.Bs keyT s2 n n d3) := HBS.out.step (by omega) HDA.out (by have := HB.out; omega) (by have := HB.out; omega) t1 t2
                have HS1 := Lib.hid hS1
                have HG1 := Lib.hid (HG.out.trans hg1)
                clear hS1 hg1 t1 t2
                go_wp2_with fail
                exact ⟨⟨s2, d3, by have := HS2.out; omega, hs2m, rfl, HST1.out, HBS1.out, HS1.out, HG1.out⟩, by have := HS2.out; simp [intOf]; omega⟩
              · have hmnI : ¬ (m : Int) < (n : Int) := by omega
                have HBS1 : Hid (StM.Bs keyT s2 n n d) := by
                  show StM.Bs _ _ _ _ _
                  have h := HBS.out
                  rw [← HS2.out] at h ⊢
                  exact h.last (by omega) HDA2.out (by rw [HM.out]; omega) (fun hl => HRS.out.alone HDA2.out (by rw [HM.out]; omega) hl)
                go_wp2_with fail
                exact ⟨⟨s2, d, by have := HS2.out; omega, hs2m, rfl, HST.out, HBS1.out, HOW.out, HG.out⟩, by have := HS2.out; simp [intOf]; omega⟩
        · have hsnI : ¬ (s : Int) < (n : Int) := by omega
          have HFN : Hid (StM.Srt keyT 0 n d2) := HBS.out.all (by omega)
          go_wp2_with fail
          go_end0
          exact ⟨rfl, d2, HOW.out, HG0.out.trans HG.out, HST.out, HFN.out⟩
end Go.Proofs.YtoedmmhiinhljaaGreatDoor

/-
  DERIVED: THE SHELF's CONTRACTS AT THIS DUMP, IN PLAIN WORDS (tools/lay-plain.mjs out of 'TryzShelf.lean', which tools/lay-shelf.mjs wrote): THE SAME DECLARATIONS UNDER THE SAME NAMES: 'import', 'namespace', 'open', 'def', 'theorem' AND NOTHING ELSE: no command of the shelf's: FOR A HAND-IN. Each laying: the table of numbers ('.._ren') and one theorem, a field a fact of the dump's own or the kernel's comparison; each contract: ONE APPLICATION.
-/
namespace Go.Proofs
open Go.Shelf
def Tryz.lays191_ren : Go.Shelf.Ren := ⟨fun | 191 => 74 | 189 => 88 | 125 => 110 | 257 => 109 | 128 => 128 | 129 => 129 | 294 => 119 | 295 => 120 | 296 => 121 | 297 => 122 | 298 => 123 | 299 => 124 | 216 => 125 | 300 => 126 | 301 => 127 | 328 => 133 | 329 => 134 | 330 => 135 | 331 => 136 | 332 => 137 | 215 => 138 | 343 => 140 | n => n, fun | 28 => 22 | 0 => 0 | 3 => 3 | 46 => 91 | 51 => 108 | 53 => 110 | 4 => 4 | 183 => 128 | 182 => 127 | 131 => 61 | 5 => 5 | 9 => 9 | 218 => 133 | 222 => 137 | 228 => 139 | 229 => 140 | n => n, fun | n => n⟩
theorem Tryz.lays191 : Go.Proofs.Lays.n191 Tryz.prog Tryz.lays191_ren := {
  mixed := by kernel_rfl
  f125 := Tryz.func110.trans (congrArg some (by kernel_rfl))
  f128 := Tryz.func128.trans (congrArg some (by kernel_rfl))
  f129 := Tryz.func129.trans (congrArg some (by kernel_rfl))
  f189 := Tryz.func88.trans (congrArg some (by kernel_rfl))
  f191 := Tryz.func74.trans (congrArg some (by kernel_rfl))
  f215 := Tryz.func138.trans (congrArg some (by kernel_rfl))
  f216 := Tryz.func125.trans (congrArg some (by kernel_rfl))
  f257 := Tryz.func109.trans (congrArg some (by kernel_rfl))
  f294 := Tryz.func119.trans (congrArg some (by kernel_rfl))
  f295 := Tryz.func120.trans (congrArg some (by kernel_rfl))
  f296 := Tryz.func121.trans (congrArg some (by kernel_rfl))
  f297 := Tryz.func122.trans (congrArg some (by kernel_rfl))
  f298 := Tryz.func123.trans (congrArg some (by kernel_rfl))
  f299 := Tryz.func124.trans (congrArg some (by kernel_rfl))
  f300 := Tryz.func126.trans (congrArg some (by kernel_rfl))
  f301 := Tryz.func127.trans (congrArg some (by kernel_rfl))
  f328 := Tryz.func133.trans (congrArg some (by kernel_rfl))
  f329 := Tryz.func134.trans (congrArg some (by kernel_rfl))
  f330 := Tryz.func135.trans (congrArg some (by kernel_rfl))
  f331 := Tryz.func136.trans (congrArg some (by kernel_rfl))
  f332 := Tryz.func137.trans (congrArg some (by kernel_rfl))
  f343 := Tryz.func140.trans (congrArg some (by kernel_rfl))
  t0 := Tryz.underlying0
  a0 := Tryz.isAgg0
  z0 := Tryz.sizeOf0
  v0 := Tryz.zeroValue0
  t3 := Tryz.underlying3
  a3 := Tryz.isAgg3
  z3 := Tryz.sizeOf3
  v3 := Tryz.zeroValue3
  t4 := Tryz.underlying4
  a4 := Tryz.isAgg4
  z4 := Tryz.sizeOf4
  v4 := Tryz.zeroValue4
  t5 := Tryz.underlying5
  a5 := Tryz.isAgg5
  z5 := Tryz.sizeOf5
  v5 := Tryz.zeroValue5
  t9 := Tryz.underlying9
  a9 := Tryz.isAgg9
  z9 := Tryz.sizeOf9
  v9 := Tryz.zeroValue9
  t28 := Tryz.underlying22
  a28 := Tryz.isAgg22
  z28 := Tryz.sizeOf22
  v28 := Tryz.zeroValue22
  t46 := Tryz.underlying91
  a46 := Tryz.isAgg91
  z46 := Tryz.sizeOf91
  v46 := Tryz.zeroValue91
  t51 := Tryz.underlying108
  a51 := Tryz.isAgg108
  z51 := Tryz.sizeOf108
  v51 := Tryz.zeroValue108
  t53 := Tryz.underlying110
  a53 := Tryz.isAgg110
  z53 := Tryz.sizeOf110
  v53 := Tryz.zeroValue110
  t131 := Tryz.underlying61
  a131 := Tryz.isAgg61
  z131 := Tryz.sizeOf61
  v131 := Tryz.zeroValue61
  t182 := Tryz.underlying127
  a182 := Tryz.isAgg127
  z182 := Tryz.sizeOf127
  v182 := Tryz.zeroValue127
  t183 := Tryz.underlying128
  a183 := Tryz.isAgg128
  z183 := Tryz.sizeOf128
  v183 := Tryz.zeroValue128
  t218 := Tryz.underlying133
  a218 := Tryz.isAgg133
  z218 := Tryz.sizeOf133
  v218 := Tryz.zeroValue133
  t222 := Tryz.underlying137
  a222 := Tryz.isAgg137
  z222 := Tryz.sizeOf137
  v222 := Tryz.zeroValue137
  t228 := Tryz.underlying139
  a228 := Tryz.isAgg139
  z228 := Tryz.sizeOf139
  v228 := Tryz.zeroValue139
  t229 := Tryz.underlying140
  a229 := Tryz.isAgg140
  z229 := Tryz.sizeOf140
  v229 := Tryz.zeroValue140 }
open Go.Sort Go.RowKit in
theorem Tryz.sort_Ints (blk off cap : Nat) (zs : List Int) (w : World) (hH : Holds (Value.int .i64) w blk off zs.toArray) (hblk : blk < w.heap.size) (hsz : zs.length < 4611686018427387904) :
    Calls Tryz.prog 74 #[.slice (some ⟨blk, off, none⟩) zs.length cap] w fun e w' =>
      e = .returned (.tuple #[]) ∧ ∃ n os, w' = grow (putRow (Value.int .i64) (Sort.ahead w n) blk off (zs.mergeSort fun x y => decide (x ≤ y)).toArray) os := Any.sort_Ints Tryz.lays191 blk off cap zs w hH hblk hsz
def Tryz.laysGg6_ren : Go.Shelf.Ren := ⟨fun | 6 => 131 | 10 => 79 | 11 => 80 | 12 => 82 | 13 => 110 | 14 => 139 | 24 => 128 | 25 => 129 | 26 => 101 | 27 => 141 | 28 => 142 | 29 => 143 | 30 => 144 | 31 => 145 | 32 => 146 | 33 => 147 | 34 => 148 | 35 => 149 | 36 => 150 | 37 => 151 | 38 => 152 | 39 => 153 | n => n, fun | 20 => 20 | 26 => 85 | 35 => 100 | 0 => 0 | 37 => 102 | 3 => 3 | 41 => 91 | 44 => 106 | 49 => 108 | 51 => 110 | 4 => 4 | 54 => 143 | 53 => 142 | 58 => 61 | 5 => 5 | 9 => 9 | 60 => 148 | 64 => 137 | 66 => 151 | 67 => 140 | 17 => 17 | 32 => 97 | 33 => 98 | 82 => 166 | 12 => 12 | 75 => 159 | 76 => 160 | 77 => 161 | 78 => 162 | 79 => 163 | 80 => 164 | n => n, fun | n => n⟩
theorem Tryz.laysGg6 : Go.Proofs.LaysGg.n6 Tryz.prog Tryz.laysGg6_ren := {
  mixed := by kernel_rfl
  f6 := Tryz.func131.trans (congrArg some (by kernel_rfl))
  f10 := Tryz.func79.trans (congrArg some (by kernel_rfl))
  f11 := Tryz.func80.trans (congrArg some (by kernel_rfl))
  f12 := Tryz.func82.trans (congrArg some (by kernel_rfl))
  f13 := Tryz.func110.trans (congrArg some (by kernel_rfl))
  f14 := Tryz.func139.trans (congrArg some (by kernel_rfl))
  f24 := Tryz.func128.trans (congrArg some (by kernel_rfl))
  f25 := Tryz.func129.trans (congrArg some (by kernel_rfl))
  f26 := Tryz.func101.trans (congrArg some (by kernel_rfl))
  f27 := Tryz.func141.trans (congrArg some (by kernel_rfl))
  f28 := Tryz.func142.trans (congrArg some (by kernel_rfl))
  f29 := Tryz.func143.trans (congrArg some (by kernel_rfl))
  f30 := Tryz.func144.trans (congrArg some (by kernel_rfl))
  f31 := Tryz.func145.trans (congrArg some (by kernel_rfl))
  f32 := Tryz.func146.trans (congrArg some (by kernel_rfl))
  f33 := Tryz.func147.trans (congrArg some (by kernel_rfl))
  f34 := Tryz.func148.trans (congrArg some (by kernel_rfl))
  f35 := Tryz.func149.trans (congrArg some (by kernel_rfl))
  f36 := Tryz.func150.trans (congrArg some (by kernel_rfl))
  f37 := Tryz.func151.trans (congrArg some (by kernel_rfl))
  f38 := Tryz.func152.trans (congrArg some (by kernel_rfl))
  f39 := Tryz.func153.trans (congrArg some (by kernel_rfl))
  t0 := Tryz.underlying0
  a0 := Tryz.isAgg0
  z0 := Tryz.sizeOf0
  v0 := Tryz.zeroValue0
  i0 := by kernel_rfl
  t3 := Tryz.underlying3
  a3 := Tryz.isAgg3
  z3 := Tryz.sizeOf3
  v3 := Tryz.zeroValue3
  i3 := by kernel_rfl
  t4 := Tryz.underlying4
  a4 := Tryz.isAgg4
  z4 := Tryz.sizeOf4
  v4 := Tryz.zeroValue4
  i4 := by kernel_rfl
  t5 := Tryz.underlying5
  a5 := Tryz.isAgg5
  z5 := Tryz.sizeOf5
  v5 := Tryz.zeroValue5
  i5 := by kernel_rfl
  t9 := Tryz.underlying9
  a9 := Tryz.isAgg9
  z9 := Tryz.sizeOf9
  v9 := Tryz.zeroValue9
  i9 := by kernel_rfl
  t12 := Tryz.underlying12
  a12 := Tryz.isAgg12
  z12 := Tryz.sizeOf12
  v12 := Tryz.zeroValue12
  i12 := by kernel_rfl
  t17 := Tryz.underlying17
  a17 := Tryz.isAgg17
  z17 := Tryz.sizeOf17
  v17 := Tryz.zeroValue17
  i17 := by kernel_rfl
  t20 := Tryz.underlying20
  a20 := Tryz.isAgg20
  z20 := Tryz.sizeOf20
  v20 := Tryz.zeroValue20
  i20 := by kernel_rfl
  t26 := Tryz.underlying85
  a26 := Tryz.isAgg85
  z26 := Tryz.sizeOf85
  v26 := Tryz.zeroValue85
  i26 := by kernel_rfl
  t32 := Tryz.underlying97
  a32 := Tryz.isAgg97
  z32 := Tryz.sizeOf97
  v32 := Tryz.zeroValue97
  i32 := by kernel_rfl
  t33 := Tryz.underlying98
  a33 := Tryz.isAgg98
  z33 := Tryz.sizeOf98
  v33 := Tryz.zeroValue98
  i33 := by kernel_rfl
  t35 := Tryz.underlying100
  a35 := Tryz.isAgg100
  z35 := Tryz.sizeOf100
  v35 := Tryz.zeroValue100
  i35 := by kernel_rfl
  t37 := Tryz.underlying102
  a37 := Tryz.isAgg102
  z37 := Tryz.sizeOf102
  v37 := Tryz.zeroValue102
  i37 := by kernel_rfl
  t41 := Tryz.underlying91
  a41 := Tryz.isAgg91
  z41 := Tryz.sizeOf91
  v41 := Tryz.zeroValue91
  i41 := by kernel_rfl
  t44 := Tryz.underlying106
  a44 := Tryz.isAgg106
  z44 := Tryz.sizeOf106
  v44 := Tryz.zeroValue106
  i44 := by kernel_rfl
  t49 := Tryz.underlying108
  a49 := Tryz.isAgg108
  z49 := Tryz.sizeOf108
  v49 := Tryz.zeroValue108
  i49 := by kernel_rfl
  t51 := Tryz.underlying110
  a51 := Tryz.isAgg110
  z51 := Tryz.sizeOf110
  v51 := Tryz.zeroValue110
  i51 := by kernel_rfl
  t53 := Tryz.underlying142
  a53 := Tryz.isAgg142
  z53 := Tryz.sizeOf142
  v53 := Tryz.zeroValue142
  i53 := by kernel_rfl
  t54 := Tryz.underlying143
  a54 := Tryz.isAgg143
  z54 := Tryz.sizeOf143
  v54 := Tryz.zeroValue143
  i54 := by kernel_rfl
  t58 := Tryz.underlying61
  a58 := Tryz.isAgg61
  z58 := Tryz.sizeOf61
  v58 := Tryz.zeroValue61
  i58 := by kernel_rfl
  t60 := Tryz.underlying148
  a60 := Tryz.isAgg148
  z60 := Tryz.sizeOf148
  v60 := Tryz.zeroValue148
  i60 := by kernel_rfl
  t64 := Tryz.underlying137
  a64 := Tryz.isAgg137
  z64 := Tryz.sizeOf137
  v64 := Tryz.zeroValue137
  i64 := by kernel_rfl
  t66 := Tryz.underlying151
  a66 := Tryz.isAgg151
  z66 := Tryz.sizeOf151
  v66 := Tryz.zeroValue151
  i66 := by kernel_rfl
  t67 := Tryz.underlying140
  a67 := Tryz.isAgg140
  z67 := Tryz.sizeOf140
  v67 := Tryz.zeroValue140
  i67 := by kernel_rfl
  t75 := Tryz.underlying159
  a75 := Tryz.isAgg159
  z75 := Tryz.sizeOf159
  v75 := Tryz.zeroValue159
  i75 := by kernel_rfl
  t76 := Tryz.underlying160
  a76 := Tryz.isAgg160
  z76 := Tryz.sizeOf160
  v76 := Tryz.zeroValue160
  i76 := by kernel_rfl
  t77 := Tryz.underlying161
  a77 := Tryz.isAgg161
  z77 := Tryz.sizeOf161
  v77 := Tryz.zeroValue161
  i77 := by kernel_rfl
  t78 := Tryz.underlying162
  a78 := Tryz.isAgg162
  z78 := Tryz.sizeOf162
  v78 := Tryz.zeroValue162
  i78 := by kernel_rfl
  t79 := Tryz.underlying163
  a79 := Tryz.isAgg163
  z79 := Tryz.sizeOf163
  v79 := Tryz.zeroValue163
  i79 := by kernel_rfl
  t80 := Tryz.underlying164
  a80 := Tryz.isAgg164
  z80 := Tryz.sizeOf164
  v80 := Tryz.zeroValue164
  i80 := by kernel_rfl
  t82 := Tryz.underlying166
  a82 := Tryz.isAgg166
  z82 := Tryz.sizeOf166
  v82 := Tryz.zeroValue166
  i82 := by kernel_rfl }
def Tryz.laysGt8_ren : Go.Shelf.Ren := ⟨fun | 8 => 66 | 13 => 79 | 14 => 80 | 16 => 82 | 15 => 81 | 29 => 101 | 30 => 102 | 42 => 117 | 49 => 130 | n => n, fun | 20 => 20 | 26 => 85 | 36 => 100 | 0 => 0 | 38 => 102 | 42 => 106 | 3 => 3 | 4 => 4 | 47 => 91 | 17 => 17 | 33 => 97 | 34 => 98 | 89 => 166 | 12 => 12 | 56 => 108 | 82 => 159 | 5 => 5 | 83 => 160 | 84 => 161 | 85 => 162 | 86 => 163 | 87 => 164 | n => n, fun | n => n⟩
theorem Tryz.laysGt8 : Go.Proofs.LaysGt.n8 Tryz.prog Tryz.laysGt8_ren := {
  mixed := by kernel_rfl
  f8 := Tryz.func66.trans (congrArg some (by kernel_rfl))
  f13 := Tryz.func79.trans (congrArg some (by kernel_rfl))
  f14 := Tryz.func80.trans (congrArg some (by kernel_rfl))
  f15 := Tryz.func81.trans (congrArg some (by kernel_rfl))
  f16 := Tryz.func82.trans (congrArg some (by kernel_rfl))
  f29 := Tryz.func101.trans (congrArg some (by kernel_rfl))
  f30 := Tryz.func102.trans (congrArg some (by kernel_rfl))
  f42 := Tryz.func117.trans (congrArg some (by kernel_rfl))
  f49 := Tryz.func130.trans (congrArg some (by kernel_rfl))
  t0 := Tryz.underlying0
  a0 := Tryz.isAgg0
  z0 := Tryz.sizeOf0
  v0 := Tryz.zeroValue0
  i0 := by kernel_rfl
  t3 := Tryz.underlying3
  a3 := Tryz.isAgg3
  z3 := Tryz.sizeOf3
  v3 := Tryz.zeroValue3
  i3 := by kernel_rfl
  t4 := Tryz.underlying4
  a4 := Tryz.isAgg4
  z4 := Tryz.sizeOf4
  v4 := Tryz.zeroValue4
  i4 := by kernel_rfl
  t5 := Tryz.underlying5
  a5 := Tryz.isAgg5
  z5 := Tryz.sizeOf5
  v5 := Tryz.zeroValue5
  i5 := by kernel_rfl
  t12 := Tryz.underlying12
  a12 := Tryz.isAgg12
  z12 := Tryz.sizeOf12
  v12 := Tryz.zeroValue12
  i12 := by kernel_rfl
  t17 := Tryz.underlying17
  a17 := Tryz.isAgg17
  z17 := Tryz.sizeOf17
  v17 := Tryz.zeroValue17
  i17 := by kernel_rfl
  t20 := Tryz.underlying20
  a20 := Tryz.isAgg20
  z20 := Tryz.sizeOf20
  v20 := Tryz.zeroValue20
  i20 := by kernel_rfl
  t26 := Tryz.underlying85
  a26 := Tryz.isAgg85
  z26 := Tryz.sizeOf85
  v26 := Tryz.zeroValue85
  i26 := by kernel_rfl
  t33 := Tryz.underlying97
  a33 := Tryz.isAgg97
  z33 := Tryz.sizeOf97
  v33 := Tryz.zeroValue97
  i33 := by kernel_rfl
  t34 := Tryz.underlying98
  a34 := Tryz.isAgg98
  z34 := Tryz.sizeOf98
  v34 := Tryz.zeroValue98
  i34 := by kernel_rfl
  t36 := Tryz.underlying100
  a36 := Tryz.isAgg100
  z36 := Tryz.sizeOf100
  v36 := Tryz.zeroValue100
  i36 := by kernel_rfl
  t38 := Tryz.underlying102
  a38 := Tryz.isAgg102
  z38 := Tryz.sizeOf102
  v38 := Tryz.zeroValue102
  i38 := by kernel_rfl
  t42 := Tryz.underlying106
  a42 := Tryz.isAgg106
  z42 := Tryz.sizeOf106
  v42 := Tryz.zeroValue106
  i42 := by kernel_rfl
  t47 := Tryz.underlying91
  a47 := Tryz.isAgg91
  z47 := Tryz.sizeOf91
  v47 := Tryz.zeroValue91
  i47 := by kernel_rfl
  t56 := Tryz.underlying108
  a56 := Tryz.isAgg108
  z56 := Tryz.sizeOf108
  v56 := Tryz.zeroValue108
  i56 := by kernel_rfl
  t82 := Tryz.underlying159
  a82 := Tryz.isAgg159
  z82 := Tryz.sizeOf159
  v82 := Tryz.zeroValue159
  i82 := by kernel_rfl
  t83 := Tryz.underlying160
  a83 := Tryz.isAgg160
  z83 := Tryz.sizeOf160
  v83 := Tryz.zeroValue160
  i83 := by kernel_rfl
  t84 := Tryz.underlying161
  a84 := Tryz.isAgg161
  z84 := Tryz.sizeOf161
  v84 := Tryz.zeroValue161
  i84 := by kernel_rfl
  t85 := Tryz.underlying162
  a85 := Tryz.isAgg162
  z85 := Tryz.sizeOf162
  v85 := Tryz.zeroValue162
  i85 := by kernel_rfl
  t86 := Tryz.underlying163
  a86 := Tryz.isAgg163
  z86 := Tryz.sizeOf163
  v86 := Tryz.zeroValue163
  i86 := by kernel_rfl
  t87 := Tryz.underlying164
  a87 := Tryz.isAgg164
  z87 := Tryz.sizeOf164
  v87 := Tryz.zeroValue164
  i87 := by kernel_rfl
  t89 := Tryz.underlying166
  a89 := Tryz.isAgg166
  z89 := Tryz.sizeOf166
  v89 := Tryz.zeroValue166
  i89 := by kernel_rfl }
open Go.RowKit Go.Sort in
theorem Tryz.sort_Ints_none (p : Option Addr) (cap : Nat) (w : World) :
    Calls Tryz.prog 74 #[.slice p 0 cap] w fun e w' => e = .returned (.tuple #[]) ∧ w' = w := Any.sort_Ints_none Tryz.lays191 p cap w
end Go.Proofs

/- sort.SliceStable, with the program's test. -/
namespace Go.Proofs.YtoedmmhiinhljaaGreatDoor
open Go.RowKit Go.Shelf
set_option linter.unusedVariables false
attribute [local go_sem ↓] Go.wp_at_zero Go.wp_at_succ


noncomputable def tiST : TypeInfo := (Tryz.prog.info? 22).get (by kernel_rfl)
noncomputable def tiIT : TypeInfo := (Tryz.prog.info? 3).get (by kernel_rfl)
theorem swapKT (n : Nat) (h2 : 2 ≤ n) : Lib.swapperK n tiIT 2 = 5 := by
  have a : tiIT.hasPointers = false := by kernel_rfl
  have b : tiIT.bytes = 8 := by kernel_rfl
  have c : (n == 0) = false := by simp; omega
  have d : (n == 1) = false := by simp; omega
  simp [Lib.swapperK, a, b, c, d]
set_option maxRecDepth 100000 in
/-- The library's stable sort of two values or more. -/
theorem sliceT (base g n c B : Nat) (d0 : Nat → Int) (w : World) (h : SS w base g n c B d0) (hn2 : 2 ≤ n) (hn : n ≤ 1099511627776) :
    Calls Tryz.prog 66 #[.iface 22 (.slice (some ⟨g, 0, none⟩) n c), .func (.func 67) #[] #[.pointer (some ⟨B, 0, none⟩)]] w (StP w base g n c B fun d' => StM.Stb keyT 0 n d0 d' ∧ StM.Srt keyT 0 n d') := by
  have hagg : ∀ w, (isAgg 3).run Tryz.prog w = .ok false w := fun _ => by kernel_rfl
  obtain ⟨W, hW⟩ : ∃ W, stableWorld Tryz.prog Tryz.laysGt8_ren 22 (some ⟨g, 0, none⟩) n c w = W := ⟨_, rfl⟩
  have hb : Below w.heap.size w W := by
    rw [← hW]
    unfold stableWorld
    exact bel_alloc (bel_alloc (Below.refl _ _) _) _
  refine (Any.sort_SliceStable_of_stable Tryz.laysGt8 22 3 tiST tiIT (by kernel_rfl) (by kernel_rfl) (by kernel_rfl) (by kernel_rfl) 2 (fun _ => by kernel_rfl) (some ⟨g, 0, none⟩) n c (by omega) 96 (by rw [swapKT n hn2]; kernel_rfl) (.func 67) #[] #[.pointer (some ⟨B, 0, none⟩)] w
      (fun w' => ∃ d', SS w' base g n c B d' ∧ w.grownBy w' (some g) ∧ StM.Stb keyT 0 n d0 d' ∧ StM.Srt keyT 0 n d') ?_).mono (fun e w' h => h)
  have hbd : sliceBound Tryz.prog 3 tiIT 2 (some ⟨g, 0, none⟩) n c = #[.slice (some ⟨g, 0, none⟩) n c, typeHandle Tryz.prog 3] := by
    unfold sliceBound
    rw [swapKT n hn2]
    rfl
  rw [hbd, hW]
  have hx : ∀ args W, (callFunc 96 args).run Tryz.prog W = ((Extern.ReflectliteSwapper.swap true args).run Tryz.prog W).andThen fun v w' => .ok (.value v) w' := fun args W => run_callFunc_extern Tryz.func96 (by kernel_rfl) (by kernel_rfl) (by kernel_rfl) (e := Extern.ReflectliteSwapper.swap true) (by kernel_rfl) args W
  refine (stabT _ _ base g n c B (swapT _ true hx hagg base g n c B) hn d0 W (h.keep hb)).mono ?_
  rintro e w' ⟨rfl, d', h1, h2, h3⟩
  exact ⟨rfl, d', h1, ((⟨hb.os, hb.tape, hb.output, hb.size, fun k hk _ => hb.block k hk⟩ : w.grownBy W (some g))).trans h2, h3⟩
set_option maxRecDepth 100000 in
/-- One value or none. -/
theorem sliceT1 (p : Option Addr) (n c : Nat) (hn : n ≤ 1) (F : Value) (lf : Fn) (lb : Array Value) (hF : F = .func lf #[] lb) (w : World) :
    Calls Tryz.prog 66 #[.iface 22 (.slice p n c), F] w (fun e w' => e = .returned (.tuple #[]) ∧ Below w.heap.size w w') := by
  subst hF
  have hk : ∃ f, Tryz.prog.funcs.findIdx? (·.name == "internal/reflectlite" ++ ".Swapper$" ++ toString (Lib.swapperK n tiIT 2)) = some f := by
    rcases (by omega : n = 0 ∨ n = 1) with rfl | rfl
    · exact ⟨92, by kernel_rfl⟩
    · exact ⟨93, by kernel_rfl⟩
  obtain ⟨f, hf⟩ := hk
  refine (Any.sort_SliceStable_tiny Tryz.laysGt8 22 3 tiST tiIT (by kernel_rfl) (by kernel_rfl) (by kernel_rfl) (by kernel_rfl) 2 (fun _ => by kernel_rfl) p n c hn f hf lf #[] lb w).mono ?_
  rintro e w' ⟨rfl, os, rfl⟩
  exact ⟨rfl, rfl, rfl, rfl, by simp [Sort.grow], fun k hk => by simp [Sort.grow, Array.getElem?_append, hk]⟩
end Go.Proofs.YtoedmmhiinhljaaGreatDoor

/- A region that draws its order and writes what it has read: with a class of one's own. -/
namespace Go.Proofs.YtoedmmhiinhljaaGreatDoor
open Go.RowKit
set_option linter.unusedVariables false
section
variable {P : Program} {ops : Array Oper} {C : World → Prop} {Q : Exit → Act → World → Prop}
theorem wp_region_rgC {id : Nat} {a : Act} {w : World} {l : List Oper} (n : Nat) (hl : l.length = n) (hm : P.follows .mixedOrders = true) (hC : C { w with drawn := w.drawn + 1 }) (h : wpRg P .any l.toArray C (NoPanic Q) n (Array.replicate n false) a w) : (Code.region id l.toArray true).wp P Q a w := by
  subst hl
  exact wp_region_noPanic (wp_region_any hm (wpAny_of_wpRg _ _ _ _ hC (wpRg_ext h (ExC.drawn w))))
/-- An operation that only reads what the class keeps is taken first. -/
theorem rgTC (hCE : ∀ w w', C w → Ext w w' → C w') {i d : Nat} {oi : Oper} {v : Value} {f : Nat} {listed : Array Bool} {ts : Array Value} {ds : List Deferred} {w : World} (hi : ops[i]? = some oi) (hd : oi.dst = some d)
    (hs : Region.noSelect ops = true) (hf : Region.free .any ops listed i = true) (hr : (Region.ready .any ops listed).contains i = true) (hw : Region.wanted oi (yielded ops ts) = true)
    (hy : ∀ w', C w' → oi.quietAt P { tmps := ts, defers := ds } (Ext w') w' v)
    (h : wpRg P .any ops C (NoPanic Q) f (listed.setIfInBounds i true) { tmps := ts.setIfInBounds d v, defers := ds } w) : wpRg P .any ops C (NoPanic Q) (f + 1) listed { tmps := ts, defers := ds } w :=
  wpRg_first hCE hi (Region.noSelect_spec hs) (fun _ _ _ h => h) f listed _ w (Region.free_spec hi hf) (by simpa using hr) (.inl ⟨hw, hy⟩) (by rw [hd]; exact h)
end
section
variable (w : World) {ops : Array Oper} {o : Oper} {a : Act} {Q : Exit → Act → World → Prop}
theorem wpN (s x : Operand) {K : Act → World → Prop} (ho : o.op = .call { callee := .builtin .append, args := #[s, x], argTypes := #[22, 22] })
    (base : Nat) (A : Option Addr) (n c : Nat) (l : List Int) (hs : a.eval s = .slice A n c) (hown : w.ownsRow base 3 1 (.slice A n c) n (vI l))
    (A2 : Option Addr) (m c2 : Nat) (l2 : List Int) (hx : a.eval x = .slice A2 m c2) (hr : Rd w A2 (vI l2)) (hl : l2.length = m) (hb : n + m ≤ 1099511627776) (hbase : base ≤ w.heap.size)
    (h : ∀ A' c' w', w'.ownsRow base 3 1 (.slice A' (n + m) c') (n + m) (vI (l ++ l2)) → w.grownBy w' (ob A) → (ob A' = ob A ∨ ob A' = some w.heap.size) → K (a.put o.dst (.slice A' (n + m) c')) w') :
    o.wp Tryz.prog a w K Q := by
  obtain ⟨i0, hi, hz0, hz1, hz2⟩ := info_parts infoI
  refine wp_app w s x _ ho base _ i0 _ 1 8 Tryz.underlying22 hi hz0 hz1 hz2 rfl (by omega) A n c _ hs hown A2 m c2 _ hx hr (by rw [vI_length, hl]; omega) (vI_one _) (by unfold maxLen; omega) (by omega) hbase ?_
  intro A' c' w' h1
  rw [← vI_append] at h1
  exact h A' c' w' h1
end
end Go.Proofs.YtoedmmhiinhljaaGreatDoor

/- A tiling turned: the program's TurnTiling. -/
namespace Go.Proofs.YtoedmmhiinhljaaGreatDoor
open Go.RowKit
set_option linter.unusedVariables false
attribute [local go_sem ↓] Go.wp_at_zero Go.wp_at_succ


theorem sg_list : ∀ (L : List Int), StM.sg (fun j => L.getD j 0) 0 L.length = L := by
  intro L
  apply List.ext_getElem?
  intro k
  by_cases hk : k < L.length
  · rw [StM.sg_get _ _ _ _ hk, Nat.zero_add, List.getD_eq_getElem?_getD, List.getElem?_eq_getElem hk]
    rfl
  · rw [List.getElem?_eq_none (by rw [StM.sg_len]; omega), List.getElem?_eq_none (by omega)]
/-- The list that the program has made is put in order, whatever its length. -/
theorem sortT (base bx k c : Nat) (o : Option Addr) (L : List Int) (w : World) (hk : L.length = k) (hkm : k ≤ 1048576) (ho : w.ownsRow base 3 1 (.slice o k c) k (vI L)) (hb : Blk w bx 22 #[.slice o k c]) (hbx : bx < base) (hT : Tb w) (htb : 1 < base) (hL : ∀ x ∈ L, 0 ≤ x ∧ x < 2 ^ 62) :
    Calls Tryz.prog 66 #[.iface 22 (.slice o k c), .func (.func 67) #[] #[.pointer (some ⟨bx, 0, none⟩)]] w
      (fun e w' => e = .returned (.tuple #[]) ∧ w'.ownsRow base 3 1 (.slice o k c) k (vI (StM.stS keyT L)) ∧ Blk w' bx 22 #[.slice o k c] ∧ w.grownBy w' (ob o)) := by
  by_cases h2 : 2 ≤ k
  · obtain ⟨g, rfl, hg1, hg2⟩ := own_at ho (by omega)
    have hS : SS w base g k c bx (fun j => L.getD j 0) := ⟨by rw [← hk, sg_list, hk]; exact ho, by simpa using hb.cell 0, by omega, hT, htb, fun j hj => by
      have hjl : j < L.length := by omega
      rw [List.getD_eq_getElem?_getD, List.getElem?_eq_getElem hjl]
      exact hL _ (List.getElem_mem hjl)⟩
    refine (sliceT base g k c bx _ w hS h2 (by omega)).mono ?_
    rintro e w' ⟨rfl, d', h3, h4, h5, h6⟩
    have he := StM.stb_eq h5 h6
    rw [← hk, sg_list] at he
    have ho' := h3.own
    rw [← hk, he, hk] at ho'
    exact ⟨rfl, ho', hb.grown h4 (fun e => by injection e with e; omega), h4⟩
  · refine (sliceT1 o k c (by omega) _ _ _ rfl w).mono ?_
    rintro e w' ⟨rfl, hbel⟩
    have he : StM.stS keyT L = L := by
      rcases (by omega : k = 0 ∨ k = 1) with h | h
      · rw [List.eq_nil_of_length_eq_zero (by omega : L.length = 0)]; rfl
      · obtain ⟨x, rfl⟩ := List.length_eq_one_iff.1 (hk.trans h)
        rfl
    rw [he]
    exact ⟨rfl, own_keep ho hbel, hb.below hbel, ⟨hbel.os, hbel.tape, hbel.output, hbel.size, fun j hj _ => hbel.block j hj⟩⟩
set_option maxRecDepth 100000 in
set_option maxHeartbeats 6400000 in
theorem TurnTiling_i (W : Int) (A : Option Addr) (n c : Nat) (D : Option Addr) (k cd : Nat) (rows l : List Int) (m : Int) (w : World) (hr : Rd w A (vI rows)) (hl : rows.length = n) (hrI : Rd w D (vI l)) (hlI : l.length = k) (hx : ∀ x ∈ l, x < 9223372036854775808) (hk : k ≤ 1048576) (hT : Tb w) :
    Calls Tryz.prog 47 #[.agg #[.int .i64 W, .slice A n c], .slice D k cd, .int .i64 m] w (RetS2 w 3 1 (vI (ttV W rows l m)) (.bool (ttOk W rows l m))) := by
  have HL := Lib.hid hl
  have HR := Lib.hid hr
  have HRI := Lib.hid hrI
  have HLI := Lib.hid hlI
  have HX := Lib.hid hx
  have HT := Lib.hid hT
  have htb := World.block_lt_of_cell? w _ (hT 0 (by decide))
  have HTBL : Hid (1 < w.heap.size) := htb
  have hml := motV_len W rows
  have HB0 := Lib.hid (Blk.new w 29 #[.int .i64 W, .slice A n c])
  have hnil : ∀ u : World, Below w.heap.size w u → ttOk W rows l m = false → RetS2 w 3 1 (vI (ttV W rows l m)) (.bool (ttOk W rows l m)) (.returned (.tuple #[.slice none 0 0, .bool false])) u := fun u hb h => ⟨none, 0, 0, by rw [h], by rw [ttV_no h]; exact own_nil _ _ _ _, hb⟩
  have HNIL := Lib.hid hnil
  clear hr hl hrI hlI hx hT hnil htb
  cases ha : (motV W rows).any (· == m) with
  | false =>
    have HA := Lib.hid ha
    have HTO : Hid (ttOk W rows l m = false) := by show _ = _; unfold ttOk; rw [ha]; rfl
    clear ha
    go_enter Tryz.func47, Tryz.ntmps47
    go_wp2_with fail
    refine (RegionMotions_i _ _ _ _ rows _ (HR.out.alloc _) HL.out).mono ?_
    rintro e w1 ⟨B, q, cq, rfl, ho, hb1⟩
    have hq : (motV W rows).length = q := by have := own_len ho; rw [vI_length] at this; omega
    have HQ := Lib.hid hq
    have hq8 : q ≤ 1099511627776 := by omega
    clear hq hml
    go_wp2_with fail
    refine (hasInt_i _ _ _ _ m _ (Rd.of_own ho) HQ.out hq8).mono ?_
    rw [HA.out]
    rintro e w2 ⟨rfl, hb2⟩
    go_wp2_with fail
    go_ret2
    exact HNIL.out _ (by (repeat (first | with_reducible exact Below.refl _ _ | with_reducible assumption | with_reducible apply bel_alloc | with_reducible apply bel_drew | with_reducible apply bel_drewN | ((with_reducible refine bel_set ?_ ?_); rotate_left; (simp <;> omega)) | (with_reducible refine bel_trans ?_ (by with_reducible assumption))))) HTO.out
  | true =>
    obtain ⟨hv, k', hk8, rfl, hg⟩ := motV_any ha
    have HA := Lib.hid ha
    have HV := Lib.hid hv
    obtain ⟨n0, rfl, hn1, hn6, hh1, hh6, _⟩ := isReg_yes hv
    rw [HL.out] at hh1 hh6 hg
    rw [Int.toNat_natCast] at hg
    have HG0 : Hid (goesM n0 n k' = true) := hg
    clear ha hv hg
    go_enter Tryz.func47, Tryz.ntmps47
    go_wp2_with fail
    refine (RegionMotions_i _ _ _ _ rows _ (HR.out.alloc _) HL.out).mono ?_
    rintro e w1 ⟨B, q, cq, rfl, ho, hb1⟩
    have hq : (motV (n0 : Int) rows).length = q := by have := own_len ho; rw [vI_length] at this; omega
    have HQ := Lib.hid hq
    have hq8 : q ≤ 1099511627776 := by omega
    clear hq hml
    go_wp2_with fail
    refine (hasInt_i _ _ _ _ (k' : Int) _ (Rd.of_own ho) HQ.out hq8).mono ?_
    rw [HA.out]
    rintro e w2 ⟨rfl, hb2⟩
    have hb2q : Below w.heap.size w w2 := (by (repeat (first | with_reducible exact Below.refl _ _ | with_reducible assumption | with_reducible apply bel_alloc | with_reducible apply bel_drew | with_reducible apply bel_drewN | ((with_reducible refine bel_set ?_ ?_); rotate_left; (simp <;> omega)) | (with_reducible refine bel_trans ?_ (by with_reducible assumption)))))
    have HB2 := Lib.hid hb2q
    have HBX := Lib.hid ((HB0.out.below hb1).below hb2)
    have HBO := Lib.hid (Blk.new w2 22 #[.slice none 0 0])
    have HBX2 := Lib.hid (HBX.out.alloc (.cells #[.slice none 0 0] 22))
    have HB3 := Lib.hid (bel_alloc HB2.out (.cells #[.slice none 0 0] 22))
    have hbl0 := HBX.out.lt
    have hON := own_nil (w2.alloc (.cells #[.slice none 0 0] 22)) (w2.heap.size + 1) 3 1
    have HON := Lib.hid hON
    clear ho hb1 hb2 hb2q hON
    go_wp2_with fail
    go_loopw [18] (fun e18 wr => ∃ (i co : Nat) (o : Option Addr), i ≤ k ∧ e18 = .int .i64 i ∧ Blk wr w2.heap.size 22 #[.slice o i co] ∧ wr.ownsRow (w2.heap.size + 1) 3 1 (.slice o i co) i (vI ((l.take i).map fun x => tmV n0 rows x k')) ∧ (∀ x ∈ l.take i, okMask n0 rows x = true) ∧ Blk wr w.heap.size 29 #[.int .i64 (n0 : Int), .slice A n c] ∧ Below w.heap.size w wr ∧ w2.heap.size + 1 ≤ wr.heap.size) (fun e18 _ => k - (intOf e18).toNat)
    case atStart => exact ⟨0, 0, none, Nat.zero_le _, rfl, HBO.out, by simpa [vI] using HON.out, (fun x h => by simp at h), HBX2.out, HB3.out, by simp⟩
    case round =>
      obtain ⟨i, co, o, hik, rfl, hbo, hown, hall, hbox, hb, hsz⟩ := hrel
      have HBOW := Lib.hid hbo
      have HOW := Lib.hid hown
      have HALL := Lib.hid hall
      have HBXW := Lib.hid hbox
      have HB := Lib.hid hb
      have b0 : wr.cell? ⟨w.heap.size, 0, none⟩ = some (.int .i64 (n0 : Int)) := by simpa using hbox.cell 0
      have b1 : wr.cell? ⟨w.heap.size, 1, none⟩ = some (.slice A n c) := by simpa using hbox.cell 1
      have bl := hbox.lt
      have o0 : wr.cell? ⟨w2.heap.size, 0, none⟩ = some (.slice o i co) := by simpa using hbo.cell 0
      have ol := hbo.lt
      have of_ : wr.frozen? ⟨w2.heap.size, 0, none⟩ = false := hbo.frozen 0
      clear hbo hown hall hbox hb
      by_cases hlt : i < k
      · have hi0 : (0 : Int) ≤ (i : Int) := by omega
        have hi1 : (i : Int) < (k : Int) := by omega
        have hil : i < l.length := by rw [HLI.out]; exact hlt
        obtain ⟨gl, off, hA, hgl2, d1⟩ := RdI.at_ (HRI.out.below HB.out) hil
        have hmap := map_take_succ (fun x => tmV n0 rows x k') hil
        have hals := fun h2 => all_take_succ (P := fun x => okMask n0 rows x = true) hil HALL.out h2
        obtain ⟨x, hx⟩ : ∃ x, l[i] = x := ⟨_, rfl⟩
        have hxm : x ∈ l := by rw [← hx]; exact List.getElem_mem hil
        rw [hx] at d1 hmap hals
        have HMAP := Lib.hid hmap
        have HALS := Lib.hid hals
        have HXM := Lib.hid hxm
        have hx63 := HX.out x hxm
        obtain ⟨tk, htk⟩ : ∃ tk, okMask n0 rows x = tk := ⟨_, rfl⟩
        have HIM : Hid (∀ w', Below wr.heap.size wr w' → Calls Tryz.prog 65 #[.agg #[.int .i64 (n0 : Int), .slice A n c], .int .i64 x] w' (Ret w' (.bool tk))) := fun w' hb' => by rw [← htk]; exact isMask_i n0 A n c rows x w' ((HR.out.below HB.out).below hb') HL.out HV.out hx63
        have HTK := Lib.hid htk
        clear hx hxm hx63 hil hmap hals htk
        subst hA
        cases tk with
        | false =>
          have HTO : Hid (ttOk n0 rows l k' = false) := ttOk_no HXM.out (by unfold tmOk; rw [HTK.out, Bool.and_false])
          go_wp2_with fail
          refine (HIM.out _ (Below.refl _ _)).mono ?_
          rintro e w3 ⟨rfl, hb3⟩
          have hbz := bel_trans HB.out hb3
          go_wp2_with fail
          go_ret2
          exact HNIL.out _ hbz HTO.out
        | true =>
          have HAL2 := Lib.hid (HALS.out HTK.out)
          have hok := HTK.out
          unfold okMask at hok
          rw [Bool.and_eq_true, decide_eq_true_eq] at hok
          obtain ⟨hx0, hin⟩ := hok
          obtain ⟨q0, rfl⟩ : ∃ q : Nat, x = (q : Int) := ⟨x.toNat, by omega⟩
          have hlt2 := inM_lt hin (maskV_lt2 HV.out)
          rw [Int.toNat_natCast, Int.toNat_natCast, HL.out] at hlt2
          have HLT : Hid (q0 < 2 ^ (n0 * n)) := hlt2
          have htv : tmV n0 rows q0 k' = ((turnTo n0 n k' q0 (n0 * n) : Nat) : Int) := by
            unfold tmV
            rw [tmOk_eq HA.out, HTK.out, HL.out]
            rfl
          obtain ⟨tv, htv2⟩ : ∃ tv, tmV n0 rows q0 k' = tv := ⟨_, rfl⟩
          have HCM : Hid (∀ w', Below wr.heap.size wr w' → Calls Tryz.prog 46 #[.agg #[.int .i64 (n0 : Int), .slice A n c], .int .i64 (q0 : Int), .int .i64 (k' : Int)] w' (Ret w' (.int .i64 tv))) := fun w' hb' => by rw [← htv2, htv]; exact carryMask_i n0 A n c rows q0 k' w' ((HR.out.below HB.out).below hb') HL.out ⟨hn1, hn6⟩ ⟨hh1, hh6⟩ hk8 HG0.out HLT.out
          have hmp := HMAP.out
          rw [htv2] at hmp
          have HMAP := Lib.hid hmp
          clear hx0 hin hlt2 htv htv2 hmp HALS
          go_wp2_with fail
          refine (HIM.out _ (Below.refl _ _)).mono ?_
          rintro e w3 ⟨rfl, hb3⟩
          have HB3 := Lib.hid hb3
          have hbx3 := HBXW.out.below hb3
          have hbo3 := HBOW.out.below hb3
          clear b0 b1 bl o0 ol of_ d1 hb3
          have b0 : w3.cell? ⟨w.heap.size, 0, none⟩ = some (.int .i64 (n0 : Int)) := by simpa using hbx3.cell 0
          have b1 : w3.cell? ⟨w.heap.size, 1, none⟩ = some (.slice A n c) := by simpa using hbx3.cell 1
          have bl := hbx3.lt
          have o0 : w3.cell? ⟨w2.heap.size, 0, none⟩ = some (.slice o i co) := by simpa using hbo3.cell 0
          have ol := hbo3.lt
          clear hbx3 hbo3
          go_wp2_with fail
          have HBO3 := Lib.hid (HBOW.out.below HB3.out)
          refine wp_region_rgC (C := (fun z : World => Blk z w.heap.size 29 #[.int .i64 (n0 : Int), .slice A n c])) 8 rfl (by kernel_rfl) (HBXW.out.below (bel_trans HB3.out (ExC.drawn _))) ?_
          refine rgTC (fun _ _ h k => Blk.below h k) (i := 1) (v := ?_) rfl rfl (by kernel_rfl) (by kernel_rfl) (by kernel_rfl) (by rfl) (fun w' hcw => ?_) ?_; rotate_left; (have r0 : w'.cell? ⟨w.heap.size, 0, none⟩ = some (.int .i64 (n0 : Int)) := (by simpa using Blk.cell hcw 0); have r1 : w'.cell? ⟨w.heap.size, 1, none⟩ = some (.slice A n c) := (by simpa using Blk.cell hcw 1); have rl := Blk.lt hcw; go_simp; first | done | with_reducible rfl); simp only [List.setIfInBounds_toArray, List.set_cons_zero, List.set_cons_succ]
          refine rgTC (fun _ _ h k => Blk.below h k) (i := 2) (v := ?_) rfl rfl (by kernel_rfl) (by kernel_rfl) (by kernel_rfl) (by rfl) (fun w' hcw => ?_) ?_; rotate_left; (go_simp; first | done | with_reducible rfl); simp only [List.setIfInBounds_toArray, List.set_cons_zero, List.set_cons_succ]
          refine rgTC (fun _ _ h k => Blk.below h k) (i := 3) (v := ?_) rfl rfl (by kernel_rfl) (by kernel_rfl) (by kernel_rfl) (by rfl) (fun w' hcw => ?_) ?_; rotate_left; (go_simp; first | done | with_reducible rfl); simp only [List.setIfInBounds_toArray, List.set_cons_zero, List.set_cons_succ]
          clear b0 b1 bl o0 ol
          refine rgK_two (i := 0) (k := 4) (by kernel_rfl) rfl rfl rfl rfl (fun x0 hc_x0 he_x0 K hK => ?_) (fun x4 hc_x4 he_x4 K hK => ?_)
          · have hqx0 : Below w3.heap.size w3 x0 := bel_trans (Below.refl _ _) he_x0
            have z0 : x0.cell? ⟨w2.heap.size, 0, none⟩ = some (.slice o i co) := by simpa using (HBO3.out.below hqx0).cell 0
            have zl := (HBO3.out.below hqx0).lt
            go_simp
            refine hK _ _ hc_x0 ?_
            clear hK K z0 zl
            (try simp only [List.setIfInBounds_toArray, List.set_cons_zero, List.set_cons_succ])
            refine rgK_one (i := 4) (by kernel_rfl) rfl rfl (fun x4 hc_x4 he_x4 K hK => ?_)
            have hqx4 : Below w3.heap.size w3 x4 := bel_trans hqx0 he_x4
            go_simp
            refine (HCM.out _ (bel_trans HB3.out hqx4)).mono ?_
            rintro e v4 ⟨rfl, hbv4⟩
            have hqv4 := bel_trans hqx4 hbv4
            refine hK _ _ (Blk.below hc_x4 hbv4) ?_
            clear hK K
            (try simp only [Act.put])
            (try simp only [List.setIfInBounds_toArray, List.set_cons_zero, List.set_cons_succ])
            refine rgK_one (i := 5) (by kernel_rfl) rfl rfl (fun x5 hc_x5 he_x5 K hK => ?_)
            have hqx5 : Below w3.heap.size w3 x5 := bel_trans hqv4 he_x5
            go_simp
            refine hK _ _ (Blk.alloc hc_x5 _) ?_
            clear hK K
            (try simp only [List.setIfInBounds_toArray, List.set_cons_zero, List.set_cons_succ])
            have hnx5 : Rd (x5.alloc (.cells #[.int .i64 tv] 3)) (some ⟨x5.heap.size, 0, none⟩) (vI [tv]) := rd_newI _ _ _
            have hqa : Below w3.heap.size w3 (x5.alloc (.cells #[.int .i64 tv] 3)) := bel_alloc hqx5 _
            refine rgK_one (i := 6) (by kernel_rfl) rfl rfl (fun x6 hc_x6 he_x6 K hK => ?_)
            have hq6 : Below w3.heap.size w3 x6 := bel_trans hqa he_x6
            refine wpN _ _ _ rfl (w2.heap.size + 1) o i co ((l.take i).map fun x => tmV n0 rows x k') rfl (own_keep HOW.out (bel_trans HB3.out hq6)) (some ⟨x5.heap.size, 0, none⟩) 1 1 [tv] rfl (hnx5.below he_x6) rfl (by omega) (by have h1 := HB3.out.size; have h2 := hq6.size; omega) ?_
            intro D6 c6 w6 ho6 hg6 hat6
            have hbo6 := (HBO3.out.below hq6).grown hg6 (fun e => by have := (own_lt HOW.out _ e.symm).1; omega)
            refine hK _ _ (Blk.grown hc_x6 hg6 (fun e => by have := (own_lt HOW.out _ e.symm).1; omega)) ?_
            clear hK K
            (try simp only [List.setIfInBounds_toArray, List.set_cons_zero, List.set_cons_succ])
            (try simp only [Act.put])
            (try simp only [List.setIfInBounds_toArray, List.set_cons_zero, List.set_cons_succ])
            refine rgK_one (i := 7) (by kernel_rfl) rfl rfl (fun x7 hc_x7 he_x7 K hK => ?_)
            have hbo7 := hbo6.below he_x7
            have z0 : x7.cell? ⟨w2.heap.size, 0, none⟩ = some (.slice o i co) := by simpa using hbo7.cell 0
            have zf : x7.frozen? ⟨w2.heap.size, 0, none⟩ = false := hbo7.frozen 0
            have zl := hbo7.lt
            go_simp
            refine hK _ _ (Blk.far hc_x7 (p := ⟨w2.heap.size, 0, none⟩) (by show w.heap.size ≠ w2.heap.size; omega) _) ?_
            clear hK K
            (try simp only [List.setIfInBounds_toArray, List.set_cons_zero, List.set_cons_succ])
            refine ⟨by kernel_rfl, fun wz hcz hez => NoPanic.normal ?_⟩
            have e1 : i + 1 = i + 1 := rfl
            have HBOZ := Lib.hid ((hbo7.set_ 0 (.slice D6 (i + 1) c6)).below hez)
            have HOWZ := Lib.hid (own_keep (own_set (own_keep ho6 he_x7) (p := ⟨w2.heap.size, 0, none⟩) (fun g e => by have h9 := (own_lt ho6 g e).1; show g ≠ w2.heap.size; omega) (.slice D6 (i + 1) c6)) hez)
            have hbz : Below w.heap.size w wz := bel_trans (bel_set (bel_trans (bel_app (bel_trans HB.out (bel_trans HB3.out hq6)) hg6 (fun g e => by have := (own_lt HOW.out g e).1; omega)) he_x7) (by show w.heap.size ≤ w2.heap.size; omega)) hez
            have HBZ := Lib.hid hbz
            have HSZ := Lib.hid (show w2.heap.size + 1 ≤ wz.heap.size by have h1 := hez.size; have h2 := he_x7.size; have h3 := hg6.size; have h4 := hq6.size; have h5 := HB3.out.size; simp only [World.size_setCell] at h1; omega)
            have HCZ := Lib.hid hcz
            clear hcz hez hbz hbo6 hbo7 z0 zf zl
            go_wp2_with fail
            exact ⟨⟨i + 1, c6, D6, by omega, by go_num, HBOZ.out, by rw [HMAP.out]; exact HOWZ.out, HAL2.out, HCZ.out, HBZ.out, HSZ.out⟩, by simp [intOf]; omega⟩
          · have hqx4 : Below w3.heap.size w3 x4 := bel_trans (Below.refl _ _) he_x4
            go_simp
            refine (HCM.out _ (bel_trans HB3.out hqx4)).mono ?_
            rintro e v4 ⟨rfl, hbv4⟩
            have hqv4 := bel_trans hqx4 hbv4
            refine hK _ _ (Blk.below hc_x4 hbv4) ?_
            clear hK K
            (try simp only [Act.put])
            (try simp only [List.setIfInBounds_toArray, List.set_cons_zero, List.set_cons_succ])
            refine rgK_two (i := 0) (k := 5) (by kernel_rfl) rfl rfl rfl rfl (fun x0 hc_x0 he_x0 K hK => ?_) (fun x5 hc_x5 he_x5 K hK => ?_)
            · have hqx0 : Below w3.heap.size w3 x0 := bel_trans hqv4 he_x0
              have z0 : x0.cell? ⟨w2.heap.size, 0, none⟩ = some (.slice o i co) := by simpa using (HBO3.out.below hqx0).cell 0
              have zl := (HBO3.out.below hqx0).lt
              go_simp
              refine hK _ _ hc_x0 ?_
              clear hK K z0 zl
              (try simp only [List.setIfInBounds_toArray, List.set_cons_zero, List.set_cons_succ])
              refine rgK_one (i := 5) (by kernel_rfl) rfl rfl (fun x5 hc_x5 he_x5 K hK => ?_)
              have hqx5 : Below w3.heap.size w3 x5 := bel_trans hqx0 he_x5
              go_simp
              refine hK _ _ (Blk.alloc hc_x5 _) ?_
              clear hK K
              (try simp only [List.setIfInBounds_toArray, List.set_cons_zero, List.set_cons_succ])
              have hnx5 : Rd (x5.alloc (.cells #[.int .i64 tv] 3)) (some ⟨x5.heap.size, 0, none⟩) (vI [tv]) := rd_newI _ _ _
              have hqa : Below w3.heap.size w3 (x5.alloc (.cells #[.int .i64 tv] 3)) := bel_alloc hqx5 _
              refine rgK_one (i := 6) (by kernel_rfl) rfl rfl (fun x6 hc_x6 he_x6 K hK => ?_)
              have hq6 : Below w3.heap.size w3 x6 := bel_trans hqa he_x6
              refine wpN _ _ _ rfl (w2.heap.size + 1) o i co ((l.take i).map fun x => tmV n0 rows x k') rfl (own_keep HOW.out (bel_trans HB3.out hq6)) (some ⟨x5.heap.size, 0, none⟩) 1 1 [tv] rfl (hnx5.below he_x6) rfl (by omega) (by have h1 := HB3.out.size; have h2 := hq6.size; omega) ?_
              intro D6 c6 w6 ho6 hg6 hat6
              have hbo6 := (HBO3.out.below hq6).grown hg6 (fun e => by have := (own_lt HOW.out _ e.symm).1; omega)
              refine hK _ _ (Blk.grown hc_x6 hg6 (fun e => by have := (own_lt HOW.out _ e.symm).1; omega)) ?_
              clear hK K
              (try simp only [List.setIfInBounds_toArray, List.set_cons_zero, List.set_cons_succ])
              (try simp only [Act.put])
              (try simp only [List.setIfInBounds_toArray, List.set_cons_zero, List.set_cons_succ])
              refine rgK_one (i := 7) (by kernel_rfl) rfl rfl (fun x7 hc_x7 he_x7 K hK => ?_)
              have hbo7 := hbo6.below he_x7
              have z0 : x7.cell? ⟨w2.heap.size, 0, none⟩ = some (.slice o i co) := by simpa using hbo7.cell 0
              have zf : x7.frozen? ⟨w2.heap.size, 0, none⟩ = false := hbo7.frozen 0
              have zl := hbo7.lt
              go_simp
              refine hK _ _ (Blk.far hc_x7 (p := ⟨w2.heap.size, 0, none⟩) (by show w.heap.size ≠ w2.heap.size; omega) _) ?_
              clear hK K
              (try simp only [List.setIfInBounds_toArray, List.set_cons_zero, List.set_cons_succ])
              refine ⟨by kernel_rfl, fun wz hcz hez => NoPanic.normal ?_⟩
              have e1 : i + 1 = i + 1 := rfl
              have HBOZ := Lib.hid ((hbo7.set_ 0 (.slice D6 (i + 1) c6)).below hez)
              have HOWZ := Lib.hid (own_keep (own_set (own_keep ho6 he_x7) (p := ⟨w2.heap.size, 0, none⟩) (fun g e => by have h9 := (own_lt ho6 g e).1; show g ≠ w2.heap.size; omega) (.slice D6 (i + 1) c6)) hez)
              have hbz : Below w.heap.size w wz := bel_trans (bel_set (bel_trans (bel_app (bel_trans HB.out (bel_trans HB3.out hq6)) hg6 (fun g e => by have := (own_lt HOW.out g e).1; omega)) he_x7) (by show w.heap.size ≤ w2.heap.size; omega)) hez
              have HBZ := Lib.hid hbz
              have HSZ := Lib.hid (show w2.heap.size + 1 ≤ wz.heap.size by have h1 := hez.size; have h2 := he_x7.size; have h3 := hg6.size; have h4 := hq6.size; have h5 := HB3.out.size; simp only [World.size_setCell] at h1; omega)
              have HCZ := Lib.hid hcz
              clear hcz hez hbz hbo6 hbo7 z0 zf zl
              go_wp2_with fail
              exact ⟨⟨i + 1, c6, D6, by omega, by go_num, HBOZ.out, by rw [HMAP.out]; exact HOWZ.out, HAL2.out, HCZ.out, HBZ.out, HSZ.out⟩, by simp [intOf]; omega⟩
            · have hqx5 : Below w3.heap.size w3 x5 := bel_trans hqv4 he_x5
              go_simp
              refine hK _ _ (Blk.alloc hc_x5 _) ?_
              clear hK K
              (try simp only [List.setIfInBounds_toArray, List.set_cons_zero, List.set_cons_succ])
              have hnx5 : Rd (x5.alloc (.cells #[.int .i64 tv] 3)) (some ⟨x5.heap.size, 0, none⟩) (vI [tv]) := rd_newI _ _ _
              have hqa : Below w3.heap.size w3 (x5.alloc (.cells #[.int .i64 tv] 3)) := bel_alloc hqx5 _
              refine rgK_one (i := 0) (by kernel_rfl) rfl rfl (fun x0 hc_x0 he_x0 K hK => ?_)
              have hqx0 : Below w3.heap.size w3 x0 := bel_trans hqa he_x0
              have z0 : x0.cell? ⟨w2.heap.size, 0, none⟩ = some (.slice o i co) := by simpa using (HBO3.out.below hqx0).cell 0
              have zl := (HBO3.out.below hqx0).lt
              go_simp
              refine hK _ _ hc_x0 ?_
              clear hK K z0 zl
              (try simp only [List.setIfInBounds_toArray, List.set_cons_zero, List.set_cons_succ])
              refine rgK_one (i := 6) (by kernel_rfl) rfl rfl (fun x6 hc_x6 he_x6 K hK => ?_)
              have hq6 : Below w3.heap.size w3 x6 := bel_trans hqx0 he_x6
              refine wpN _ _ _ rfl (w2.heap.size + 1) o i co ((l.take i).map fun x => tmV n0 rows x k') rfl (own_keep HOW.out (bel_trans HB3.out hq6)) (some ⟨x5.heap.size, 0, none⟩) 1 1 [tv] rfl ((hnx5.below he_x0).below he_x6) rfl (by omega) (by have h1 := HB3.out.size; have h2 := hq6.size; omega) ?_
              intro D6 c6 w6 ho6 hg6 hat6
              have hbo6 := (HBO3.out.below hq6).grown hg6 (fun e => by have := (own_lt HOW.out _ e.symm).1; omega)
              refine hK _ _ (Blk.grown hc_x6 hg6 (fun e => by have := (own_lt HOW.out _ e.symm).1; omega)) ?_
              clear hK K
              (try simp only [List.setIfInBounds_toArray, List.set_cons_zero, List.set_cons_succ])
              (try simp only [Act.put])
              (try simp only [List.setIfInBounds_toArray, List.set_cons_zero, List.set_cons_succ])
              refine rgK_one (i := 7) (by kernel_rfl) rfl rfl (fun x7 hc_x7 he_x7 K hK => ?_)
              have hbo7 := hbo6.below he_x7
              have z0 : x7.cell? ⟨w2.heap.size, 0, none⟩ = some (.slice o i co) := by simpa using hbo7.cell 0
              have zf : x7.frozen? ⟨w2.heap.size, 0, none⟩ = false := hbo7.frozen 0
              have zl := hbo7.lt
              go_simp
              refine hK _ _ (Blk.far hc_x7 (p := ⟨w2.heap.size, 0, none⟩) (by show w.heap.size ≠ w2.heap.size; omega) _) ?_
              clear hK K
              (try simp only [List.setIfInBounds_toArray, List.set_cons_zero, List.set_cons_succ])
              refine ⟨by kernel_rfl, fun wz hcz hez => NoPanic.normal ?_⟩
              have e1 : i + 1 = i + 1 := rfl
              have HBOZ := Lib.hid ((hbo7.set_ 0 (.slice D6 (i + 1) c6)).below hez)
              have HOWZ := Lib.hid (own_keep (own_set (own_keep ho6 he_x7) (p := ⟨w2.heap.size, 0, none⟩) (fun g e => by have h9 := (own_lt ho6 g e).1; show g ≠ w2.heap.size; omega) (.slice D6 (i + 1) c6)) hez)
              have hbz : Below w.heap.size w wz := bel_trans (bel_set (bel_trans (bel_app (bel_trans HB.out (bel_trans HB3.out hq6)) hg6 (fun g e => by have := (own_lt HOW.out g e).1; omega)) he_x7) (by show w.heap.size ≤ w2.heap.size; omega)) hez
              have HBZ := Lib.hid hbz
              have HSZ := Lib.hid (show w2.heap.size + 1 ≤ wz.heap.size by have h1 := hez.size; have h2 := he_x7.size; have h3 := hg6.size; have h4 := hq6.size; have h5 := HB3.out.size; simp only [World.size_setCell] at h1; omega)
              have HCZ := Lib.hid hcz
              clear hcz hez hbz hbo6 hbo7 z0 zf zl
              go_wp2_with fail
              exact ⟨⟨i + 1, c6, D6, by omega, by go_num, HBOZ.out, by rw [HMAP.out]; exact HOWZ.out, HAL2.out, HCZ.out, HBZ.out, HSZ.out⟩, by simp [intOf]; omega⟩
      · obtain rfl : i = k := by omega
        have hi1 : ¬ (i : Int) < (i : Int) := by omega
        have HTL : Hid (l.take i = l) := List.take_of_length_le (by rw [HLI.out]; exact Nat.le_refl _)
        have hall := HALL.out
        have hown := HOW.out
        rw [HTL.out] at hall hown
        have hto : ttOk n0 rows l k' = true := by unfold ttOk; rw [HA.out, List.all_eq_true.2 hall]; rfl
        have htv : ttV n0 rows l k' = StM.stS keyT (l.map fun x => tmV n0 rows x k') := by unfold ttV; rw [hto]; rfl
        obtain ⟨M, hM⟩ : ∃ M, l.map (fun x => tmV n0 rows x k') = M := ⟨_, rfl⟩
        rw [hM] at htv hown
        have hMl : M.length = i := by rw [← hM, List.length_map, HLI.out]
        have hMr : ∀ x ∈ M, 0 ≤ x ∧ x < 2 ^ 62 := fun x hx => by
          rw [← hM] at hx
          obtain ⟨y, _, rfl⟩ := List.mem_map.1 hx
          exact tmV_lt
        have hTr := HT.out.below HB.out
        have hsz0 := HB2.out.size
        have htbl := HTBL.out
        have HSO := Lib.hid (sortT (w2.heap.size + 1) w2.heap.size i co o M wr hMl (by omega) hown HBOW.out (by omega) hTr (by omega) hMr)
        have HTV := Lib.hid htv
        have HTO := Lib.hid hto
        clear hall hown hto htv hM hMl hMr hTr htbl
        go_wp2_with fail
        refine HSO.out.mono ?_
        rintro e w5 ⟨rfl, ho5, hb5, hg5⟩
        have q0 : w5.cell? ⟨w2.heap.size, 0, none⟩ = some (.slice o i co) := by simpa using hb5.cell 0
        have ql := hb5.lt
        have HO5 := Lib.hid (own_base ho5 (show w.heap.size ≤ w2.heap.size + 1 by omega))
        have HB5 := Lib.hid (bel_app HB.out hg5 (fun g e => by have := (own_lt HOW.out g e).1; omega))
        clear ho5 hb5 hg5 o0 ol of_
        go_wp2_with fail
        go_ret2
        exact ⟨o, i, co, by rw [HTO.out]; rfl, by rw [HTV.out]; exact HO5.out, HB5.out⟩
end Go.Proofs.YtoedmmhiinhljaaGreatDoor

/- Rows pushed into a boxed list: the frame (taken out of PzV and PzX). -/
namespace Go.Proofs.YtoedmmhiinhljaaGreatDoor
open Go.RowKit
set_option linter.unusedVariables false
/-- Only the box b and the row o are written; the new row is o or new. -/
structure PzFr (b : Nat) (o : Option Addr) (w w' : World) (o' : Option Addr) : Prop where
  os : w'.os = w.os
  tape : w'.tape = w.tape
  output : w'.output = w.output
  size : w.heap.size ≤ w'.heap.size
  block : ∀ k, k < w.heap.size → k ≠ b → some k ≠ ob o → w'.heap[k]? = w.heap[k]?
  row : ∀ g, ob o' = some g → ob o = some g ∨ w.heap.size ≤ g
section
variable {b : Nat} {o o1 o2 : Option Addr} {w w1 w2 : World}
theorem PzFr.refl (b : Nat) (o : Option Addr) (w : World) : PzFr b o w w o := ⟨rfl, rfl, rfl, Nat.le_refl _, fun _ _ _ _ => rfl, fun g h => .inl h⟩
theorem PzFr.of_below (h : Below w.heap.size w w1) : PzFr b o w w1 o := ⟨h.os, h.tape, h.output, h.size, fun k hk _ _ => h.block k hk, fun g h => .inl h⟩
theorem PzFr.trans (h : PzFr b o w w1 o1) (k : PzFr b o1 w1 w2 o2) : PzFr b o w w2 o2 :=
  ⟨k.os.trans h.os, k.tape.trans h.tape, k.output.trans h.output, Nat.le_trans h.size k.size,
   fun i hi hb ho => (k.block i (Nat.lt_of_lt_of_le hi h.size) hb (fun e => by rcases h.row i e.symm with h1 | h1; exact ho h1.symm; omega)).trans (h.block i hi hb ho),
   fun g hg => by rcases k.row g hg with h1 | h1; exact h.row g h1; exact .inr (Nat.le_trans h.size h1)⟩
theorem PzFr.rd {A : Option Addr} {vs : List Value} (h : PzFr b o w w1 o1) (hr : Rd w A vs) (hA : ∀ g, ob A = some g → g ≠ b ∧ ob o ≠ some g) : Rd w1 A vs := by
  rcases hr with hr | ⟨g, off, rfl, hr⟩
  · exact .inl hr
  · refine .inr ⟨g, off, rfl, fun j u hu => ?_⟩
    have h2 := hA g rfl
    have h3 := hr j u hu
    exact (World.cell?_of_block (w := w) (h.block g (World.block_lt_of_cell? w _ h3) h2.1 (fun e => h2.2 e.symm))).trans h3
theorem PzFr.rd2 {A : Option Addr} {n : Nat} {hs : List H} {F : List (List Int)} (h : PzFr b o w w1 o1) (hr : Rd2I w A n hs F) (hA : ∀ g, ob A = some g → g ≠ b ∧ ob o ≠ some g) (hH : ∀ x ∈ hs, ∀ g, ob x.1 = some g → g ≠ b ∧ ob o ≠ some g) : Rd2I w1 A n hs F :=
  ⟨h.rd hr.top hA, hr.hlen, hr.flen, fun k a c => ⟨(hr.row k a c).1, h.rd (hr.row k a c).2 (hH _ (List.getElem_mem a))⟩⟩
theorem PzFr.blk {g : Nat} {t : TypeId} {cs : Array Value} (h : PzFr b o w w1 o1) (hg : Blk w g t cs) (h1 : g ≠ b) (h2 : ob o ≠ some g) : Blk w1 g t cs :=
  (h.block g hg.lt h1 (fun e => h2 e.symm)).trans hg
end
/-- One row more, which was there before. -/
theorem Own2.push_old {base : Nat} {w w3 : World} {B B' : Option Addr} {n c c' g1 nf cf : Nat} {hs : List H} {F : List (List Int)} {f : List Int}
    (h : Own2 base w B n c hs F) (hf : w.ownsRow base 3 1 (.slice (some ⟨g1, 0, none⟩) nf cf) nf (vI f)) (h1 : ob B ≠ some g1) (h2 : away hs g1)
    (ho : w3.ownsRow base 22 1 (.slice B' (n + 1) c') (n + 1) (vS (hs ++ [(some ⟨g1, 0, none⟩, nf, cf)]))) (hg : w.grownBy w3 (ob B)) (ha : ∀ g, ob B' = some g → ob B = some g ∨ w.heap.size ≤ g) :
    Own2 base w3 B' (n + 1) c' (hs ++ [(some ⟨g1, 0, none⟩, nf, cf)]) (F ++ [f]) := by
  have hold : ∀ k (a : k < hs.length) g, ob hs[k].1 = some g → g < w.heap.size := fun k a g e => (own_lt (h.row k a (h.len ▸ a)) g e).2
  have hf1 := (own_lt hf g1 rfl).2
  refine ⟨ho, by simp [h.len], fun k a b => ?_, fun g e => ?_, ?_⟩
  · by_cases hk : k < hs.length
    · have hk2 : k < F.length := h.len ▸ hk
      simp only [List.getElem_append_left hk, List.getElem_append_left hk2]
      exact own_kept (h.row k hk hk2) hg fun g e r => h.off g r _ (List.getElem_mem hk) e
    · have e : k = hs.length := by simp at a; omega
      subst e
      have e3 : (hs ++ [((some ⟨g1, 0, none⟩, nf, cf) : H)])[hs.length]'a = (some ⟨g1, 0, none⟩, nf, cf) := by simp
      have e4 : (F ++ [f])[hs.length]'b = f := by rw [List.getElem_append_right (Nat.le_of_eq h.len.symm)]; simp
      rw [e3, e4]
      exact own_kept hf hg fun g e r => by simp only [ob, Option.map_some, Option.some.injEq] at e; subst e; exact h1 r
  · intro x hx
    rcases List.mem_append.1 hx with hx | hx
    · rcases ha g e with k1 | k1
      · exact h.off g k1 x hx
      · intro r
        obtain ⟨k, hk, rfl⟩ := List.mem_iff_getElem.1 hx
        have := hold k hk g r
        omega
    · simp only [List.mem_singleton] at hx
      subst hx
      intro r
      simp only [ob, Option.map_some, Option.some.injEq] at r
      subst r
      rcases ha _ e with k1 | k1
      · exact h1 k1
      · omega
  · have hn1 : ∀ i (a : i < hs.length) g, ob hs[i].1 = some g → ob (some (⟨g1, 0, none⟩ : Addr)) ≠ some g := fun i a g e r => by
      simp only [ob, Option.map_some, Option.some.injEq] at r
      subst r
      exact h2 _ (List.getElem_mem a) e
    intro i j a b hij g e
    by_cases hi : i < hs.length
    · by_cases hj : j < hs.length
      · simp only [List.getElem_append_left hi] at e
        simp only [List.getElem_append_left hj]
        exact h.sep i j hi hj hij g e
      · have ej : j = hs.length := by simp at b; omega
        subst ej
        simp only [List.getElem_append_left hi] at e
        simp only [List.getElem_append_right (Nat.le_refl _), Nat.sub_self, List.getElem_cons_zero]
        exact hn1 i hi g e
    · have ei : i = hs.length := by simp at a; omega
      subst ei
      have hj : j < hs.length := by simp at b; omega
      simp only [List.getElem_append_right (Nat.le_refl _), Nat.sub_self, List.getElem_cons_zero] at e
      simp only [List.getElem_append_left hj]
      exact fun r => hn1 j hj g r e
theorem own_set_far {w : World} {base e n c size b : Nat} {A : Option Addr} {xs : List Value} {u : Value} (h : w.ownsRow base e size (.slice A n c) n xs) (hb : b < base) : (w.setCell ⟨b, 0, none⟩ u).ownsRow base e size (.slice A n c) n xs := by
  refine ⟨h.1, ?_⟩
  rcases h.2 with hn | ⟨g, cap, cur, hv, hg, hgg, rest⟩
  · exact .inl hn
  · exact .inr ⟨g, cap, cur, hv, hg, (Below.heap_setCell w _ u g (by show g ≠ b; omega)).trans hgg, rest⟩
theorem Own2.set_far {base : Nat} {w : World} {B : Option Addr} {n c b : Nat} {hs : List H} {F : List (List Int)} (h : Own2 base w B n c hs F) (u : Value) (hb : b < base) : Own2 base (w.setCell ⟨b, 0, none⟩ u) B n c hs F :=
  ⟨own_set_far h.own hb, h.len, fun k a c => own_set_far (h.row k a c) hb, h.off, h.sep⟩
/-- One row more, in a block or in none. -/
theorem Own2.pushA {base : Nat} {w w3 : World} {B B' A1 : Option Addr} {n c c' nf cf : Nat} {hs : List H} {F : List (List Int)} {f : List Int}
    (h : Own2 base w B n c hs F) (hf : w.ownsRow base 3 1 (.slice A1 nf cf) nf (vI f)) (h1 : ∀ g, ob A1 = some g → ob B ≠ some g ∧ away hs g)
    (ho : w3.ownsRow base 22 1 (.slice B' (n + 1) c') (n + 1) (vS (hs ++ [(A1, nf, cf)]))) (hg : w.grownBy w3 (ob B)) (ha : ∀ g, ob B' = some g → ob B = some g ∨ w.heap.size ≤ g) :
    Own2 base w3 B' (n + 1) c' (hs ++ [(A1, nf, cf)]) (F ++ [f]) := by
  have hold : ∀ k (a : k < hs.length) g, ob hs[k].1 = some g → g < w.heap.size := fun k a g e => (own_lt (h.row k a (h.len ▸ a)) g e).2
  have hf1 := fun g e => (own_lt hf g e).2
  refine ⟨ho, by simp [h.len], fun k a b => ?_, fun g e => ?_, ?_⟩
  · by_cases hk : k < hs.length
    · have hk2 : k < F.length := h.len ▸ hk
      simp only [List.getElem_append_left hk, List.getElem_append_left hk2]
      exact own_kept (h.row k hk hk2) hg fun g e r => h.off g r _ (List.getElem_mem hk) e
    · have e : k = hs.length := by simp at a; omega
      subst e
      have e3 : (hs ++ [((A1, nf, cf) : H)])[hs.length]'a = (A1, nf, cf) := by simp
      have e4 : (F ++ [f])[hs.length]'b = f := by rw [List.getElem_append_right (Nat.le_of_eq h.len.symm)]; simp
      rw [e3, e4]
      exact own_kept hf hg fun g e r => (h1 g e).1 r
  · intro x hx
    rcases List.mem_append.1 hx with hx | hx
    · rcases ha g e with k1 | k1
      · exact h.off g k1 x hx
      · intro r
        obtain ⟨k, hk, rfl⟩ := List.mem_iff_getElem.1 hx
        have := hold k hk g r
        omega
    · simp only [List.mem_singleton] at hx
      subst hx
      intro r
      rcases ha _ e with k1 | k1
      · exact (h1 g r).1 k1
      · have := hf1 g r; omega
  · have hn1 : ∀ i (a : i < hs.length) g, ob hs[i].1 = some g → ob A1 ≠ some g := fun i a g e r => (h1 g r).2 _ (List.getElem_mem a) e
    intro i j a b hij g e
    by_cases hi : i < hs.length
    · by_cases hj : j < hs.length
      · simp only [List.getElem_append_left hi] at e
        simp only [List.getElem_append_left hj]
        exact h.sep i j hi hj hij g e
      · have ej : j = hs.length := by simp at b; omega
        subst ej
        simp only [List.getElem_append_left hi] at e
        simp only [List.getElem_append_right (Nat.le_refl _), Nat.sub_self, List.getElem_cons_zero]
        exact hn1 i hi g e
    · have ei : i = hs.length := by simp at a; omega
      subst ei
      have hj : j < hs.length := by simp at b; omega
      simp only [List.getElem_append_right (Nat.le_refl _), Nat.sub_self, List.getElem_cons_zero] at e
      simp only [List.getElem_append_left hj]
      exact fun r => hn1 j hj g r e
end Go.Proofs.YtoedmmhiinhljaaGreatDoor

/- Tilings collected: what a search adds to a list. No program is in sight. -/
namespace Go.Proofs.YtoedmmhiinhljaaGreatDoor
set_option linter.unusedVariables false
/-- The list, with the tilings of what is free, at most so many in all. -/
def outA (L : List Int) (free most : Nat) (Out : List (List Int)) (l : List Int) : List (List Int) := Out ++ ((tilV L free).take (most - Out.length)).map (l ++ ·)
theorem outA_zero (L : List Int) {most : Nat} {Out : List (List Int)} (l : List Int) (h : Out.length < most) : outA L 0 most Out l = Out ++ [l] := by
  unfold outA
  rw [tilV_zero, List.take_of_length_le (by simp; omega)]
  simp
theorem outA_end {L : List Int} {free most : Nat} {Out : List (List Int)} {l : List Int} (h : (Out ++ (tilV L free).map (l ++ ·)).length < most) : Out ++ (tilV L free).map (l ++ ·) = outA L free most Out l := by
  unfold outA
  rw [List.take_of_length_le]
  rw [List.length_append, List.length_map] at h
  omega
theorem outA_all {L : List Int} {free most : Nat} {Out : List (List Int)} {l : List Int} (h : (outA L free most Out l).length < most) : outA L free most Out l = Out ++ (tilV L free).map (l ++ ·) := by
  unfold outA at h ⊢
  rw [List.length_append, List.length_map, List.length_take] at h
  rw [List.take_of_length_le (by omega)]
theorem cons_map (l : List Int) (m : Int) (T : List (List Int)) : (T.map (m :: ·)).map (l ++ ·) = T.map ((l ++ [m]) ++ ·) := by
  rw [List.map_map]
  apply List.map_congr_left
  intro x _
  simp
/-- One branch more, all of it. -/
theorem outA_more {L : List Int} {f2 most : Nat} {Out X : List (List Int)} {l : List Int} {m : Int} (h : (outA L f2 most (Out ++ X.map (l ++ ·)) (l ++ [m])).length < most) :
    outA L f2 most (Out ++ X.map (l ++ ·)) (l ++ [m]) = Out ++ (X ++ (tilV L f2).map (m :: ·)).map (l ++ ·) := by
  rw [outA_all h, List.map_append, cons_map, List.append_assoc]
/-- The list is full within a branch. -/
theorem outA_stop {L : List Int} {free f2 most : Nat} {Out X Z : List (List Int)} {l : List Int} {m : Int} (hV : tilV L free = X ++ ((tilV L f2).map (m :: ·) ++ Z)) (h0 : (Out ++ X.map (l ++ ·)).length < most)
    (h : ¬ (outA L f2 most (Out ++ X.map (l ++ ·)) (l ++ [m])).length < most) : outA L f2 most (Out ++ X.map (l ++ ·)) (l ++ [m]) = outA L free most Out l := by
  unfold outA at h ⊢
  rw [List.length_append, List.length_map, List.length_take] at h
  rw [List.length_append, List.length_map] at h0 h ⊢
  rw [hV, List.take_append, List.take_of_length_le (by omega : X.length ≤ most - Out.length), List.map_append, List.append_assoc, List.take_append_of_le_length (by rw [List.length_map]; omega), ← List.map_take, cons_map]
  congr 4
  omega
theorem outA_len {L : List Int} {free most : Nat} {Out : List (List Int)} {l : List Int} (h : Out.length ≤ most) : (outA L free most Out l).length ≤ most := by
  unfold outA
  rw [List.length_append, List.length_map, List.length_take]
  omega
theorem outA_nil (L : List Int) (free most : Nat) : outA L free most [] [] = (tilV L free).take most := by
  unfold outA
  simp
theorem flat_splitT {α β : Type} {f : α → List β} {M : List α} {i : Nat} (h : i < M.length) : M.flatMap f = (M.take i).flatMap f ++ (f M[i] ++ (M.drop (i + 1)).flatMap f) := by
  have e : M = M.take i ++ (M[i] :: M.drop (i + 1)) := by rw [← List.drop_eq_getElem_cons h, List.take_append_drop]
  have h2 : M.flatMap f = (M.take i ++ (M[i] :: M.drop (i + 1))).flatMap f := by rw [← e]
  rw [h2, List.flatMap_append, List.flatMap_cons]
theorem flat_snocT {α β : Type} {f : α → List β} {M : List α} {i : Nat} (h : i < M.length) : (M.take (i + 1)).flatMap f = (M.take i).flatMap f ++ f M[i] := by
  rw [List.take_succ_eq_append_getElem h, List.flatMap_append]
  simp
end Go.Proofs.YtoedmmhiinhljaaGreatDoor

/- The lists of a search, one for each bit: 64 slices in one block, grown one by one. -/
namespace Go.Proofs.YtoedmmhiinhljaaGreatDoor
open Go.RowKit
set_option linter.unusedVariables false
/-- For each bit the masks that have it. -/
def fB (L : List Int) : List (List Int) := (List.range 64).map fun k => bitL k L
/-- On the way through one mask's bits. -/
def fB2 (L : List Int) (m : Int) (k : Nat) : List (List Int) := (List.range 64).map fun j => bitL j L ++ (if j < k ∧ m.toNat.testBit j = true then [m] else [])
theorem fB_len (L : List Int) : (fB L).length = 64 := by simp [fB]
theorem fB2_len (L : List Int) (m : Int) (k : Nat) : (fB2 L m k).length = 64 := by simp [fB2]
theorem fB_at (L : List Int) {k : Nat} (h : k < (fB L).length) : (fB L)[k] = bitL k L := by simp [fB]
theorem fB2_at (L : List Int) (m : Int) {k j : Nat} (h : j < (fB2 L m k).length) : (fB2 L m k)[j] = bitL j L ++ (if j < k ∧ m.toNat.testBit j = true then [m] else []) := by simp [fB2]
theorem fB2_zero (L : List Int) (m : Int) : fB2 L m 0 = fB L := by
  unfold fB2 fB
  congr 1
  funext j
  rw [if_neg (by omega), List.append_nil]
theorem fB2_no (L : List Int) (m : Int) {k : Nat} (h : m.toNat.testBit k = false) : fB2 L m (k + 1) = fB2 L m k := by
  unfold fB2
  congr 1
  funext j
  by_cases hj : j < k
  · simp [hj, show j < k + 1 by omega]
  · by_cases he : j = k
    · subst he; simp [h]
    · rw [if_neg (by omega), if_neg (by omega)]
theorem fB2_yes (L : List Int) (m : Int) {k : Nat} (hk : k < 64) (h : m.toNat.testBit k = true) : fB2 L m (k + 1) = (fB2 L m k).set k (bitL k L ++ [m]) := by
  apply List.ext_getElem
  · rw [List.length_set, fB2_len, fB2_len]
  · intro j h1 h2
    rw [List.getElem_set, fB2_at]
    by_cases he : k = j
    · subst he
      rw [if_pos rfl, if_pos ⟨by omega, h⟩]
    · rw [if_neg he, fB2_at]
      by_cases hj : j < k
      · simp [hj, show j < k + 1 by omega]
      · rw [if_neg (by omega), if_neg (by omega)]
theorem fB2_now (L : List Int) (m : Int) {k : Nat} (h : k < (fB2 L m k).length) : (fB2 L m k)[k] = bitL k L := by
  rw [fB2_at, if_neg (by omega), List.append_nil]
theorem fB2_end (L : List Int) (m : Int) {k : Nat} (h : m.toNat < 2 ^ k) : fB2 L m k = fB (L ++ [m]) := by
  unfold fB2 fB
  congr 1
  funext j
  rw [bitL_snoc]
  by_cases hb : m.toNat.testBit j = true
  · have hj : j < k := by
      rcases Nat.lt_or_ge j k with h2 | h2
      · exact h2
      · rw [Nat.testBit_lt_two_pow (Nat.lt_of_lt_of_le h (Nat.pow_le_pow_right (by decide) h2))] at hb
        cases hb
    rw [if_pos ⟨hj, hb⟩, if_pos hb]
  · rw [if_neg (fun h2 => hb h2.2), if_neg hb, List.append_nil]
/-- A search's cells: 64 slices, two functions. -/
def srC (hs : List H) (v t : Value) : List Value := vS hs ++ [v, t]
structure Srch (base gs : Nat) (w : World) (hs : List H) (F : List (List Int)) (v t : Value) : Prop where
  blk : Blk w gs 89 (srC hs v t).toArray
  hlen : hs.length = 64
  flen : F.length = 64
  row : ∀ k (a : k < hs.length) (b : k < F.length), w.ownsRow base 3 1 (.slice hs[k].1 hs[k].2.1 hs[k].2.2) hs[k].2.1 (vI F[k])
  low : gs < base
  sep : ∀ i j (a : i < hs.length) (b : j < hs.length), i ≠ j → ∀ g, ob hs[i].1 = some g → ob hs[j].1 ≠ some g
section
variable {base gs : Nat} {w w' : World} {hs : List H} {F : List (List Int)} {v t : Value}
theorem Srch.below (h : Srch base gs w hs F v t) (hb : Below w.heap.size w w') : Srch base gs w' hs F v t :=
  ⟨h.blk.below hb, h.hlen, h.flen, fun k a b => own_keep (h.row k a b) hb, h.low, h.sep⟩
theorem Srch.cell (h : Srch base gs w hs F v t) {k : Nat} (hk : k < hs.length) : w.cell? ⟨gs, k, none⟩ = some (.slice hs[k].1 hs[k].2.1 hs[k].2.2) := by
  rw [h.blk.cell k]
  unfold srC
  rw [List.getElem?_toArray, List.getElem?_append_left (by rw [vS_length]; exact hk)]
  simp [vS, hd, hk]
theorem Srch.cellV (h : Srch base gs w hs F v t) : w.cell? ⟨gs, 64, none⟩ = some v ∧ w.cell? ⟨gs, 65, none⟩ = some t := by
  rw [h.blk.cell 64, h.blk.cell 65]
  unfold srC
  rw [List.getElem?_toArray, List.getElem?_toArray, List.getElem?_append_right (by rw [vS_length, h.hlen]; omega), List.getElem?_append_right (by rw [vS_length, h.hlen]; omega), vS_length, h.hlen]
  exact ⟨rfl, rfl⟩
theorem Srch.rlen (h : Srch base gs w hs F v t) {k : Nat} (a : k < hs.length) (b : k < F.length) : F[k].length = hs[k].2.1 := by have := own_len (h.row k a b); rw [vI_length] at this; omega
theorem srC_set (hs : List H) (v t : Value) {k : Nat} (hk : k < hs.length) (h : H) : (srC hs v t).toArray.setIfInBounds k (hd h) = (srC (hs.set k h) v t).toArray := by
  unfold srC
  rw [List.setIfInBounds_toArray, List.set_append_left _ _ (by rw [vS_length]; exact hk)]
  congr 2
  simp [vS, List.map_set]
/-- One list more by one mask. -/
theorem Srch.put (h : Srch base gs w hs F v t) {k : Nat} (a : k < hs.length) (b : k < F.length) {w2 : World} {A : Option Addr} {n c : Nat} {f : List Int}
    (ho : w2.ownsRow base 3 1 (.slice A n c) n (vI f)) (hg : w.grownBy w2 (ob hs[k].1)) (ha : ob A = ob hs[k].1 ∨ ∀ g, ob A = some g → w.heap.size ≤ g) :
    Srch base gs (w2.setCell ⟨gs, k, none⟩ (.slice A n c)) (hs.set k (A, n, c)) (F.set k f) v t := by
  have hlt : ∀ j (a : j < hs.length) g, ob hs[j].1 = some g → base ≤ g ∧ g < w.heap.size := fun j a g e => own_lt (h.row j a (by rw [h.flen, ← h.hlen]; exact a)) g e
  have hfar : ∀ {n c : Nat} {A : Option Addr} {xs : List Value}, w2.ownsRow base 3 1 (.slice A n c) n xs → ∀ u, (w2.setCell ⟨gs, k, none⟩ u).ownsRow base 3 1 (.slice A n c) n xs := fun ho u => own_set ho (fun g e => by have := (own_lt ho g e).1; have := h.low; show g ≠ gs; omega) u
  refine ⟨?_, by rw [List.length_set]; exact h.hlen, by rw [List.length_set]; exact h.flen, fun j aj bj => ?_, h.low, fun i j ai bj hij g e => ?_⟩
  · rw [← srC_set hs v t a (A, n, c)]
    exact (h.blk.grown hg (fun e => by have := (hlt k a gs e.symm).1; have := h.low; omega)).set_ k _
  · by_cases he : k = j
    · subst he
      simp only [List.getElem_set_self]
      exact hfar ho _
    · simp only [List.getElem_set_ne he]
      rw [List.length_set] at aj bj
      exact hfar (own_kept (h.row j aj bj) hg (fun g e r => h.sep j k aj a (Ne.symm he) g e r)) _
  · rw [List.length_set] at ai bj
    by_cases hi : k = i
    · subst hi
      simp only [List.getElem_set_self] at e
      simp only [List.getElem_set_ne hij]
      intro r
      rcases ha with ha | ha
      · rw [ha] at e
        exact h.sep k j ai bj hij g e r
      · have h1 := ha g e
        have h2 := (hlt j bj g r).2
        omega
    · simp only [List.getElem_set_ne hi] at e
      by_cases hj : k = j
      · subst hj
        simp only [List.getElem_set_self]
        intro r
        rcases ha with ha | ha
        · rw [ha] at r
          exact h.sep i k ai bj hij g e r
        · have h1 := ha g r
          have h2 := (hlt i ai g e).2
          omega
      · simp only [List.getElem_set_ne hj]
        exact h.sep i j ai bj hij g e
end
end Go.Proofs.YtoedmmhiinhljaaGreatDoor

/- Coverings with fewest masks: the reference's search. -/
namespace Go.Proofs.YtoedmmhiinhljaaGreatDoor
open Go.RowKit
set_option linter.unusedVariables false
attribute [local go_sem ↓] Go.wp_at_zero Go.wp_at_succ

/-- What the reference's search answers. -/
def RetPut (w : World) (o : Option (List Int)) (e : Ending) (w' : World) : Prop :=
  ∃ g k c, e = .returned (.tuple #[.slice (some ⟨g, 0, none⟩) k c, .bool o.isSome]) ∧ w'.ownsRow w.heap.size 3 1 (.slice (some ⟨g, 0, none⟩) k c) k (vI (putP (o.getD []))) ∧ Below w.heap.size w w'
/-- One placement's answer. -/
def covG (L : List Int) (n left low : Nat) (m : Int) : Option (List Int) := if m.toNat.testBit low then (covP L n (left - (left &&& m.toNat))).map (m :: ·) else none
theorem cov_find (L : List Int) (n left low : Nat) : ∀ M : List Int, (bitL low M).findSome? (fun m => (covP L n (left - (left &&& m.toNat))).map (m :: ·)) = M.findSome? (covG L n left low)
  | [] => rfl
  | m :: t => by
    have ih := cov_find L n left low t
    unfold bitL at ih ⊢
    rw [List.filter_cons, List.findSome?_cons]
    unfold covG
    by_cases h : m.toNat.testBit low = true
    · rw [if_pos h, if_pos h, List.findSome?_cons, ih]
      rfl
    · rw [if_neg h, if_neg h, ih]
      rfl
theorem find_at {f : Int → Option (List Int)} {r : List Int} : ∀ {l : List Int} {i : Nat} (hi : i < l.length), (∀ m ∈ l.take i, f m = none) → f l[i] = some r → l.findSome? f = some r
  | m :: t, 0, _, _, h => by rw [List.findSome?_cons]; simp only [List.getElem_cons_zero] at h; rw [h]
  | m :: t, i + 1, hi, h0, h => by
    rw [List.findSome?_cons, h0 m (by simp)]
    simp only [List.getElem_cons_succ] at h
    exact find_at (by simpa using hi) (fun x hx => h0 x (by simp [hx])) h
theorem none_succ {f : Int → Option (List Int)} {l : List Int} {i : Nat} (hi : i < l.length) (h0 : ∀ m ∈ l.take i, f m = none) (h : f l[i] = none) : ∀ m ∈ l.take (i + 1), f m = none := fun m hm => by
  rw [List.take_succ_eq_append_getElem hi, List.mem_append] at hm
  rcases hm with hm | hm
  · exact h0 m hm
  · rw [List.mem_singleton] at hm; subst hm; exact h
theorem find_none {f : Int → Option (List Int)} {l : List Int} {i : Nat} (hi : l.length ≤ i) (h0 : ∀ m ∈ l.take i, f m = none) : l.findSome? f = none := by
  rw [List.take_of_length_le hi] at h0
  exact List.findSome?_eq_none_iff.2 h0
theorem putP_cons (m : Int) (p : List Int) : putP (m :: p) = putI (putP p) m := rfl
end Go.Proofs.YtoedmmhiinhljaaGreatDoor

/- The program's search: its lists by bits, the covering search. -/
namespace Go.Proofs.YtoedmmhiinhljaaGreatDoor
open Go.RowKit
set_option linter.unusedVariables false
attribute [local go_sem ↓] Go.wp_at_zero Go.wp_at_succ

/-- A search was made. -/
def RetSr (w : World) (L : List Int) (v : Value) (e : Ending) (w' : World) : Prop :=
  ∃ gs hs, e = .returned (.pointer (some ⟨gs, 0, none⟩)) ∧ Srch (gs + 1) gs w' hs (fB L) v .nilFunc ∧ w.heap.size ≤ gs ∧ Below w.heap.size w w'
theorem Srch.fresh (w : World) (v t : Value) : Srch (w.heap.size + 1) w.heap.size (w.alloc (.cells (srC (List.replicate 64 (Option.none, 0, 0)) v t).toArray 89)) (List.replicate 64 (Option.none, 0, 0)) (fB []) v t := by
  refine ⟨Blk.new _ _ _, by simp, fB_len _, fun k a b => ?_, Nat.lt_succ_self _, fun i j a b hij g e => ?_⟩
  · rw [List.getElem_replicate, fB_at]
    exact own_nil _ _ _ _
  · rw [List.getElem_replicate] at e
    cases e
set_option maxRecDepth 100000 in
set_option maxHeartbeats 3200000 in
theorem newSearch_i (A : Option Addr) (q c : Nat) (L : List Int) (w : World) (hr : Rd w A (vI L)) (hl : L.length = q) (hq : q ≤ 1048576) (hM : Msk 36 L) :
    Calls Tryz.prog 49 #[.slice A q c, .nilFunc] w (RetSr w L .nilFunc) := by
  have hs0 := Srch.fresh w .nilFunc .nilFunc
  have HS0 := Lib.hid hs0
  have HL := Lib.hid hl
  have HR := Lib.hid hr
  have HM := Lib.hid hM
  clear hs0 hl hr hM
  go_enter Tryz.func49, Tryz.ntmps49
  go_wp2_with fail
  go_loopw [14] (fun e14 wr => ∃ (i : Nat) (hs : List H), i ≤ q ∧ e14 = .int .i64 i ∧ Srch (w.heap.size + 1) w.heap.size wr hs (fB (L.take i)) .nilFunc .nilFunc ∧ Below w.heap.size w wr) (fun e14 _ => q - (intOf e14).toNat)
  case atStart => exact ⟨0, _, Nat.zero_le _, rfl, HS0.out, bel_alloc (Below.refl _ _) _⟩
  case round =>
    clear HS0
    obtain ⟨i, hs, hi, rfl, hS, hb⟩ := hrel
    have HS := Lib.hid hS
    have HB := Lib.hid hb
    clear hS hb
    by_cases hlt : i < q
    · have hi0 : (0 : Int) ≤ (i : Int) := by omega
      have hi1 : (i : Int) < (q : Int) := by omega
      have hil : i < L.length := by rw [HL.out]; exact hlt
      obtain ⟨g, off, hA, hg, d1⟩ := RdI.at_ (HR.out.below HB.out) hil
      obtain ⟨m, hm, hm36⟩ := HM.out _ (List.getElem_mem hil)
      rw [hm] at d1
      have hst : L.take (i + 1) = L.take i ++ [(m : Int)] := by rw [List.take_succ_eq_append_getElem hil, hm]
      obtain ⟨L0, hL0⟩ : ∃ L0, L.take i = L0 := ⟨_, rfl⟩
      have hL0l : L0.length ≤ 1048576 := by rw [← hL0, List.length_take]; omega
      rw [hL0] at HS hst
      have HST := Lib.hid hst
      have HM36 := Lib.hid hm36
      subst hA
      clear hst hm hL0 hm36
      go_wp2_with fail
      go_loopw [8] (fun e8 wr => ∃ (k : Nat) (hs : List H), k ≤ 36 ∧ e8 = .int .i64 k ∧ Srch (w.heap.size + 1) w.heap.size wr hs (fB2 L0 (m : Int) k) .nilFunc .nilFunc ∧ Below w.heap.size w wr) (fun e8 _ => 36 - (intOf e8).toNat)
      case atStart => exact ⟨0, hs, Nat.zero_le _, rfl, by rw [fB2_zero]; exact HS.out, HB.out⟩
      case round =>
        clear HS HB d1 hg
        obtain ⟨k, hs, hk, rfl, hS, hb⟩ := hrel
        have HS := Lib.hid hS
        have HB := Lib.hid hb
        clear hS hb
        have hk0 : (0 : Int) ≤ (k : Int) := by omega
        have hk64 : (k : Int) ≤ 64 := by omega
        have hkl : (k : Int) < 64 := by omega
        have ek : IntKind.i64.wrap (k : Int) = (k : Int) := Go.IntWalk.i64_in _ (by omega)
        have hbit := bit_testP m k (by have := HM36.out; omega)
        obtain ⟨d, hd⟩ : ∃ d, m / 2 ^ k = d := ⟨_, rfl⟩
        have hdI : (m : Int) / 2 ^ k = (d : Int) := by rw [← hd]; simp
        rw [hdI] at hbit
        by_cases hd0 : d = 0
        · have hltm : m < 2 ^ k := by
            rw [hd0] at hd
            rcases (Nat.div_eq_zero_iff).1 hd with h | h
            · have := Nat.pow_pos (n := k) (show 0 < 2 by decide); omega
            · exact h
          have HE := Lib.hid (fB2_end L0 (m : Int) (k := k) (by rw [Int.toNat_natCast]; exact hltm))
          have hne : ((d : Int) != 0) = false := by simp [hd0]
          clear hltm hd hd0 hbit
          go_wp2_with fail
          exact ⟨⟨i + 1, hs, by omega, by go_num, by rw [HST.out, ← HE.out]; exact HS.out, HB.out⟩, by simp [intOf]; omega⟩
        · have hk36 : k < 36 := by
            rcases Nat.lt_or_ge k 36 with h | h
            · exact h
            · exfalso
              apply hd0
              rw [← hd]
              exact Nat.div_eq_of_lt (by rw [show k = 36 by omega]; exact HM36.out)
          have hne : ((d : Int) != 0) = true := by simp [hd0]
          clear hd hd0
          cases hbt : m.testBit k with
          | false =>
            rw [hbt] at hbit
            have HE := Lib.hid (fB2_no L0 (m : Int) (k := k) (by rw [Int.toNat_natCast]; exact hbt))
            clear hbt
            go_wp2_with fail
            exact ⟨⟨k + 1, hs, by omega, by go_num, by rw [HE.out]; exact HS.out, HB.out⟩, by simp [intOf]; omega⟩
          | true =>
            rw [hbt] at hbit
            have HE := Lib.hid (fB2_yes L0 (m : Int) (k := k) (by omega) (by rw [Int.toNat_natCast]; exact hbt))
            have hkh : k < hs.length := by rw [HS.out.hlen]; omega
            have hkf : k < (fB2 L0 (m : Int) k).length := by rw [fB2_len]; omega
            have d0 := HS.out.cell hkh
            have o0 := HS.out.row k hkh hkf
            rw [fB2_now] at o0
            have hrl : (bitL k L0).length = hs[k].2.1 := by have := own_len o0; rw [vI_length] at this; omega
            have hrl2 := bitL_len k L0
            obtain ⟨D, hD⟩ : ∃ D, hs[k].1 = D := ⟨_, rfl⟩
            obtain ⟨nn, hnn⟩ : ∃ nn, hs[k].2.1 = nn := ⟨_, rfl⟩
            obtain ⟨cc, hcc⟩ : ∃ cc, hs[k].2.2 = cc := ⟨_, rfl⟩
            rw [hD, hnn, hcc] at d0 o0
            rw [hnn] at hrl
            have f0 := HS.out.blk.frozen k
            have l0 := HS.out.blk.lt
            have HO := Lib.hid o0
            have HD := Lib.hid hD
            have HKH := Lib.hid hkh
            have HKF := Lib.hid hkf
            have hnn2 : nn ≤ 1048576 := by omega
            clear hbt o0 hD hnn hcc hrl hrl2
            go_wp2_with fail
            go_region_law ((refine step_appI rfl (.tmp 36) (.tmp 38) rfl (w.heap.size + 1) D nn cc (bitL k L0) (by simp [Act.eval]) (own_keep HO.out (bel_alloc (bel_drew (Below.refl _ _)) _)) (some ⟨wr.heap.size, 0, none⟩) 1 1 [(m : Int)] (by simp [Act.eval]) (rd_newI _ _ _) rfl (by omega) (by have := HB.out.size; simp; omega) ?_); intro D8 c8 w8 ho8 hg8 hat8; have HO8 := Lib.hid ho8; have HG8 := Lib.hid hg8; have HAT8 := Lib.hid hat8; clear ho8 hg8 hat8; have HB8 := Lib.hid ((HS.out.blk.below (bel_alloc (bel_drew (Below.refl _ _)) _)).grown HG8.out (fun e => by have := (own_lt HO.out _ e.symm).1; omega)); have d8 : w8.cell? ⟨w.heap.size, k, none⟩ = some (.slice D nn cc) := keep_grown HG8.out (keep_alloc (keep_drew d0)) (fun e => by have h9 := (own_lt HO.out _ e.symm).1; exact absurd h9 (Nat.not_succ_le_self _)); have f8 : w8.frozen? ⟨w.heap.size, k, none⟩ = false := HB8.out.frozen k; have l8 : w.heap.size < w8.heap.size := HB8.out.lt)
            all_goals
              have hP := (HS.out.below (bel_alloc (bel_drew (Below.refl _ _)) (.cells #[.int .i64 (m : Int)] 3))).put hkh hkf HO8.out (by rw [HD.out]; exact HG8.out) (by rw [HD.out]; exact at_or HAT8.out (Nat.le_refl _))
              rw [← HE.out] at hP
              have hb8 : Below w.heap.size w (w8.setCell ⟨w.heap.size, k, none⟩ (.slice D8 (nn + 1) c8)) := bel_set (bel_app (bel_trans HB.out (bel_alloc (bel_drew (Below.refl _ _)) _)) HG8.out (fun g9 e9 => by have := (own_lt HO.out g9 e9).1; omega)) (Nat.le_refl _)
              have HP := Lib.hid hP
              have HB9 := Lib.hid hb8
              clear hP hb8
              go_wp2_with fail
              exact ⟨⟨k + 1, _, by omega, by go_num, HP.out, HB9.out⟩, by simp [intOf]; omega⟩
    · obtain rfl : i = q := by omega
      have hi1 : ¬ (i : Int) < (i : Int) := by omega
      have hE : L.take i = L := List.take_of_length_le (by rw [HL.out]; exact Nat.le_refl _)
      have HE := Lib.hid hE
      clear hE
      go_wp2_with fail
      go_ret
      exact ⟨_, hs, rfl, by have := HS.out; rwa [HE.out] at this, Nat.le_refl _, HB.out⟩
end Go.Proofs.YtoedmmhiinhljaaGreatDoor

/- A search that calls a function back:  The program's search: its lists by bits, the covering search. -/
namespace Go.Proofs.YtoedmmhiinhljaaGreatDoor
open Go.RowKit
set_option linter.unusedVariables false
attribute [local go_sem ↓] Go.wp_at_zero Go.wp_at_succ

set_option maxRecDepth 100000 in
set_option maxHeartbeats 3200000 in
theorem newSearch_f (fn : Fn) (cap : Array Value) (A : Option Addr) (q c : Nat) (L : List Int) (w : World) (hr : Rd w A (vI L)) (hl : L.length = q) (hq : q ≤ 1048576) (hM : Msk 36 L) :
    Calls Tryz.prog 49 #[.slice A q c, (.func fn #[] cap)] w (RetSr w L (.func fn #[] cap)) := by
  have hs0 := Srch.fresh w (.func fn #[] cap) .nilFunc
  have HS0 := Lib.hid hs0
  have HL := Lib.hid hl
  have HR := Lib.hid hr
  have HM := Lib.hid hM
  clear hs0 hl hr hM
  go_enter Tryz.func49, Tryz.ntmps49
  go_wp2_with fail
  go_loopw [14] (fun e14 wr => ∃ (i : Nat) (hs : List H), i ≤ q ∧ e14 = .int .i64 i ∧ Srch (w.heap.size + 1) w.heap.size wr hs (fB (L.take i)) (.func fn #[] cap) .nilFunc ∧ Below w.heap.size w wr) (fun e14 _ => q - (intOf e14).toNat)
  case atStart => exact ⟨0, _, Nat.zero_le _, rfl, HS0.out, bel_alloc (Below.refl _ _) _⟩
  case round =>
    clear HS0
    obtain ⟨i, hs, hi, rfl, hS, hb⟩ := hrel
    have HS := Lib.hid hS
    have HB := Lib.hid hb
    clear hS hb
    by_cases hlt : i < q
    · have hi0 : (0 : Int) ≤ (i : Int) := by omega
      have hi1 : (i : Int) < (q : Int) := by omega
      have hil : i < L.length := by rw [HL.out]; exact hlt
      obtain ⟨g, off, hA, hg, d1⟩ := RdI.at_ (HR.out.below HB.out) hil
      obtain ⟨m, hm, hm36⟩ := HM.out _ (List.getElem_mem hil)
      rw [hm] at d1
      have hst : L.take (i + 1) = L.take i ++ [(m : Int)] := by rw [List.take_succ_eq_append_getElem hil, hm]
      obtain ⟨L0, hL0⟩ : ∃ L0, L.take i = L0 := ⟨_, rfl⟩
      have hL0l : L0.length ≤ 1048576 := by rw [← hL0, List.length_take]; omega
      rw [hL0] at HS hst
      have HST := Lib.hid hst
      have HM36 := Lib.hid hm36
      subst hA
      clear hst hm hL0 hm36
      go_wp2_with fail
      go_loopw [8] (fun e8 wr => ∃ (k : Nat) (hs : List H), k ≤ 36 ∧ e8 = .int .i64 k ∧ Srch (w.heap.size + 1) w.heap.size wr hs (fB2 L0 (m : Int) k) (.func fn #[] cap) .nilFunc ∧ Below w.heap.size w wr) (fun e8 _ => 36 - (intOf e8).toNat)
      case atStart => exact ⟨0, hs, Nat.zero_le _, rfl, by rw [fB2_zero]; exact HS.out, HB.out⟩
      case round =>
        clear HS HB d1 hg
        obtain ⟨k, hs, hk, rfl, hS, hb⟩ := hrel
        have HS := Lib.hid hS
        have HB := Lib.hid hb
        clear hS hb
        have hk0 : (0 : Int) ≤ (k : Int) := by omega
        have hk64 : (k : Int) ≤ 64 := by omega
        have hkl : (k : Int) < 64 := by omega
        have ek : IntKind.i64.wrap (k : Int) = (k : Int) := Go.IntWalk.i64_in _ (by omega)
        have hbit := bit_testP m k (by have := HM36.out; omega)
        obtain ⟨d, hd⟩ : ∃ d, m / 2 ^ k = d := ⟨_, rfl⟩
        have hdI : (m : Int) / 2 ^ k = (d : Int) := by rw [← hd]; simp
        rw [hdI] at hbit
        by_cases hd0 : d = 0
        · have hltm : m < 2 ^ k := by
            rw [hd0] at hd
            rcases (Nat.div_eq_zero_iff).1 hd with h | h
            · have := Nat.pow_pos (n := k) (show 0 < 2 by decide); omega
            · exact h
          have HE := Lib.hid (fB2_end L0 (m : Int) (k := k) (by rw [Int.toNat_natCast]; exact hltm))
          have hne : ((d : Int) != 0) = false := by simp [hd0]
          clear hltm hd hd0 hbit
          go_wp2_with fail
          exact ⟨⟨i + 1, hs, by omega, by go_num, by rw [HST.out, ← HE.out]; exact HS.out, HB.out⟩, by simp [intOf]; omega⟩
        · have hk36 : k < 36 := by
            rcases Nat.lt_or_ge k 36 with h | h
            · exact h
            · exfalso
              apply hd0
              rw [← hd]
              exact Nat.div_eq_of_lt (by rw [show k = 36 by omega]; exact HM36.out)
          have hne : ((d : Int) != 0) = true := by simp [hd0]
          clear hd hd0
          cases hbt : m.testBit k with
          | false =>
            rw [hbt] at hbit
            have HE := Lib.hid (fB2_no L0 (m : Int) (k := k) (by rw [Int.toNat_natCast]; exact hbt))
            clear hbt
            go_wp2_with fail
            exact ⟨⟨k + 1, hs, by omega, by go_num, by rw [HE.out]; exact HS.out, HB.out⟩, by simp [intOf]; omega⟩
          | true =>
            rw [hbt] at hbit
            have HE := Lib.hid (fB2_yes L0 (m : Int) (k := k) (by omega) (by rw [Int.toNat_natCast]; exact hbt))
            have hkh : k < hs.length := by rw [HS.out.hlen]; omega
            have hkf : k < (fB2 L0 (m : Int) k).length := by rw [fB2_len]; omega
            have d0 := HS.out.cell hkh
            have o0 := HS.out.row k hkh hkf
            rw [fB2_now] at o0
            have hrl : (bitL k L0).length = hs[k].2.1 := by have := own_len o0; rw [vI_length] at this; omega
            have hrl2 := bitL_len k L0
            obtain ⟨D, hD⟩ : ∃ D, hs[k].1 = D := ⟨_, rfl⟩
            obtain ⟨nn, hnn⟩ : ∃ nn, hs[k].2.1 = nn := ⟨_, rfl⟩
            obtain ⟨cc, hcc⟩ : ∃ cc, hs[k].2.2 = cc := ⟨_, rfl⟩
            rw [hD, hnn, hcc] at d0 o0
            rw [hnn] at hrl
            have f0 := HS.out.blk.frozen k
            have l0 := HS.out.blk.lt
            have HO := Lib.hid o0
            have HD := Lib.hid hD
            have HKH := Lib.hid hkh
            have HKF := Lib.hid hkf
            have hnn2 : nn ≤ 1048576 := by omega
            clear hbt o0 hD hnn hcc hrl hrl2
            go_wp2_with fail
            go_region_law ((refine step_appI rfl (.tmp 36) (.tmp 38) rfl (w.heap.size + 1) D nn cc (bitL k L0) (by simp [Act.eval]) (own_keep HO.out (bel_alloc (bel_drew (Below.refl _ _)) _)) (some ⟨wr.heap.size, 0, none⟩) 1 1 [(m : Int)] (by simp [Act.eval]) (rd_newI _ _ _) rfl (by omega) (by have := HB.out.size; simp; omega) ?_); intro D8 c8 w8 ho8 hg8 hat8; have HO8 := Lib.hid ho8; have HG8 := Lib.hid hg8; have HAT8 := Lib.hid hat8; clear ho8 hg8 hat8; have HB8 := Lib.hid ((HS.out.blk.below (bel_alloc (bel_drew (Below.refl _ _)) _)).grown HG8.out (fun e => by have := (own_lt HO.out _ e.symm).1; omega)); have d8 : w8.cell? ⟨w.heap.size, k, none⟩ = some (.slice D nn cc) := keep_grown HG8.out (keep_alloc (keep_drew d0)) (fun e => by have h9 := (own_lt HO.out _ e.symm).1; exact absurd h9 (Nat.not_succ_le_self _)); have f8 : w8.frozen? ⟨w.heap.size, k, none⟩ = false := HB8.out.frozen k; have l8 : w.heap.size < w8.heap.size := HB8.out.lt)
            all_goals
              have hP := (HS.out.below (bel_alloc (bel_drew (Below.refl _ _)) (.cells #[.int .i64 (m : Int)] 3))).put hkh hkf HO8.out (by rw [HD.out]; exact HG8.out) (by rw [HD.out]; exact at_or HAT8.out (Nat.le_refl _))
              rw [← HE.out] at hP
              have hb8 : Below w.heap.size w (w8.setCell ⟨w.heap.size, k, none⟩ (.slice D8 (nn + 1) c8)) := bel_set (bel_app (bel_trans HB.out (bel_alloc (bel_drew (Below.refl _ _)) _)) HG8.out (fun g9 e9 => by have := (own_lt HO.out g9 e9).1; omega)) (Nat.le_refl _)
              have HP := Lib.hid hP
              have HB9 := Lib.hid hb8
              clear hP hb8
              go_wp2_with fail
              exact ⟨⟨k + 1, _, by omega, by go_num, HP.out, HB9.out⟩, by simp [intOf]; omega⟩
    · obtain rfl : i = q := by omega
      have hi1 : ¬ (i : Int) < (i : Int) := by omega
      have hE : L.take i = L := List.take_of_length_le (by rw [HL.out]; exact Nat.le_refl _)
      have HE := Lib.hid hE
      clear hE
      go_wp2_with fail
      go_ret
      exact ⟨_, hs, rfl, by have := HS.out; rwa [HE.out] at this, Nat.le_refl _, HB.out⟩
end Go.Proofs.YtoedmmhiinhljaaGreatDoor

/- The program's first tilings: what is told a tiling keeps it in a list. -/
namespace Go.Proofs.YtoedmmhiinhljaaGreatDoor
open Go.RowKit
set_option linter.unusedVariables false
attribute [local go_sem ↓] Go.wp_at_zero Go.wp_at_succ

/-- What a search leaves: the box, the list, all else as it was. -/
def FaPost (b s0 most : Nat) (o : Option Addr) (w : World) (G : List (List Int)) (e : Ending) (w' : World) : Prop :=
  e = .returned (.bool (decide (G.length < most))) ∧ ∃ o' co' ho', Blk w' b 45 #[.slice o' G.length co'] ∧ Own2 s0 w' o' G.length co' ho' G ∧ PzFr b o w w' o'
set_option maxHeartbeats 800000 in
theorem told_i (b bm s0 m co nl cl most : Nat) (o A : Option Addr) (ho : List H) (Out : List (List Int)) (l : List Int) (w : World) (hb : Blk w b 45 #[.slice o m co]) (hbm : Blk w bm 3 #[.int .i64 (most : Int)]) (hO : Own2 s0 w o m co ho Out) (hl : w.ownsRow s0 3 1 (.slice A nl cl) nl (vI l))
    (h1 : ∀ g, ob A = some g → ob o ≠ some g ∧ away ho g) (hne : bm ≠ b) (hbb : b < s0) (hbms : bm < s0) (hm : m < most) (hmost : most ≤ 1000) (hs0 : s0 ≤ w.heap.size) :
    Calls Tryz.prog 50 #[.slice A nl cl, .pointer (some ⟨b, 0, none⟩), .pointer (some ⟨bm, 0, none⟩)] w (FaPost b s0 most o w (Out ++ [l])) := by
  have d0 : w.cell? ⟨b, 0, none⟩ = some (.slice o m co) := by simpa using hb.cell 0
  have hbl := hb.lt
  have HB := Lib.hid hb
  have HBM := Lib.hid hbm
  have HO := Lib.hid hO
  have HL := Lib.hid hl
  have H1 := Lib.hid h1
  have HF := Lib.hid hO.flen
  clear hb hbm hO hl h1
  go_enter Tryz.func50, Tryz.ntmps50
  have hbo : ∀ g, ob o = some g → g ≠ b ∧ g ≠ bm := fun g hg => by have := (own_lt HO.out.own g hg).1; omega
  have HBO := Lib.hid hbo
  clear hbo
  go_wp2_with (at_builtin; go_must (refine app_S _ rfl _ _ rfl s0 _ _ _ ho rfl (HO.out.own.alloc _) _ _ _ [(A, nl, cl)] rfl (rd_newS _ _ _) rfl (by omega) (by simp; omega) ?_); intro D6 c6 w6 ho6 hg6 hat6; have HO6 := Lib.hid ho6; have HG6 := Lib.hid hg6; have HAT6 := Lib.hid hat6; clear ho6 hg6 hat6; have HB6 := Lib.hid ((HB.out.alloc (.cells #[.slice A nl cl] 22)).grown HG6.out (fun e => (HBO.out b e.symm).1 rfl)); have HM6 := Lib.hid ((HBM.out.alloc (.cells #[.slice A nl cl] 22)).grown HG6.out (fun e => (HBO.out bm e.symm).2 rfl)); have d6 : w6.cell? ⟨b, 0, none⟩ = some (.slice o m co) := (by simpa using HB6.out.cell 0); have f6 : w6.frozen? ⟨b, 0, none⟩ = false := HB6.out.frozen 0; have l6 : b < w6.heap.size := HB6.out.lt; have HC6 := Lib.hid (HB6.out.set_ 0 (.slice D6 (m + 1) c6)); have c6c : (w6.setCell ⟨b, 0, none⟩ (.slice D6 (m + 1) c6)).cell? ⟨b, 0, none⟩ = some (.slice D6 (m + 1) c6) := (by simpa using HC6.out.cell 0); have m6 : (w6.setCell ⟨b, 0, none⟩ (.slice D6 (m + 1) c6)).cell? ⟨bm, 0, none⟩ = some (.int .i64 (most : Int)) := keep_grown (grown_set (p := ⟨b, 0, none⟩) (World.grownBy.refl w6 (some b)) rfl _) (by simpa using HM6.out.cell 0) (fun e => hne (by injection e)); have lm6 : bm < (w6.setCell ⟨b, 0, none⟩ (.slice D6 (m + 1) c6)).heap.size := World.block_lt_of_cell? _ _ m6)
  go_ret
  have hlen : (Out ++ [l]).length = m + 1 := by rw [List.length_append, HF.out]; rfl
  have hsz6 : w.heap.size + 1 ≤ w6.heap.size := by have := HG6.out.size; simpa using this
  have hrow : ∀ g, ob D6 = some g → ob o = some g ∨ w.heap.size ≤ g := fun g hg => by
    rcases HAT6.out with e | e
    · exact .inl (e ▸ hg)
    · rw [e] at hg
      injection hg with hg
      rw [World.size_alloc] at hg
      exact .inr (by omega)
  have hg2 : w.grownBy w6 (ob o) := ⟨HG6.out.os, HG6.out.tape, HG6.out.output, by omega, fun k hk hn => (HG6.out.block k (by simp; omega) hn).trans (Below.heap_alloc w _ k hk)⟩
  have hP := Own2.pushA HO.out HL.out H1.out HO6.out hg2 hrow
  have hP2 := hP.set_far (b := b) (.slice D6 (m + 1) c6) hbb
  refine ⟨by rw [hlen]; simp; omega, D6, c6, _, by rw [hlen]; exact HC6.out, by rw [hlen]; exact hP2, ⟨?_, ?_, ?_, ?_, fun k hk hkb hko => ?_, hrow⟩⟩
  · exact HG6.out.os
  · exact HG6.out.tape
  · exact HG6.out.output
  · simp; omega
  · rw [← hg2.block k hk hko]
    exact Below.heap_setCell _ _ _ _ hkb
theorem own_blockT {w w' : World} {base e n c size : Nat} {A : Option Addr} {xs : List Value} (h : w.ownsRow base e size (.slice A n c) n xs) (hb : ∀ g, ob A = some g → w'.heap[g]? = w.heap[g]?) : w'.ownsRow base e size (.slice A n c) n xs := by
  refine ⟨h.1, ?_⟩
  rcases h.2 with hn | ⟨g, cap, cur, hv, hg, hgg, rest⟩
  · exact .inl hn
  · exact .inr ⟨g, cap, cur, hv, hg, (hb g (by injection hv with hA; subst hA; rfl)).trans hgg, rest⟩
/-- A search stands beside the list. -/
theorem Srch.fr {base gs b s0 : Nat} {o o' : Option Addr} {w w' : World} {hs : List H} {F : List (List Int)} {v t : Value} (h : Srch base gs w hs F v t) (hf : PzFr b o w w' o') (hbg : b < gs) (hgs : gs < s0) (hsl : ∀ x ∈ hs, ∀ g, ob x.1 = some g → g < s0) (ho : ∀ g, ob o = some g → s0 ≤ g) : Srch base gs w' hs F v t :=
  ⟨hf.blk h.blk (by omega) (fun e => by have := ho gs e; omega), h.hlen, h.flen, fun k a c => own_blockT (h.row k a c) (fun g e => by
      have h1 := (own_lt (h.row k a c) g e)
      have h2 := hsl _ (List.getElem_mem a) g e
      have h3 := h.low
      exact hf.block g h1.2 (by omega) (fun r => by have := ho g r.symm; omega)) , h.low, h.sep⟩
theorem tb_fr {b s0 : Nat} {o o' : Option Addr} {w w' : World} (h : Tb w) (hf : PzFr b o w w' o') (hb : 1 < b) (ho : ∀ g, ob o = some g → s0 ≤ g) (hs : b < s0) : Tb w' := fun j hj =>
  (World.cell?_of_block (w := w) (hf.block _ (World.block_lt_of_cell? w _ (h j hj)) (by show 1 ≠ b; omega) (fun e => by have h1 := ho 1 e.symm; omega))).trans (h j hj)
end Go.Proofs.YtoedmmhiinhljaaGreatDoor

/- A copy of a list. -/
namespace Go.Proofs.YtoedmmhiinhljaaGreatDoor
open Go.RowKit
set_option linter.unusedVariables false
attribute [local go_sem ↓] Go.wp_at_zero Go.wp_at_succ

theorem copyInts_i (A : Option Addr) (n c : Nat) (xs : List Int) (w : World) (hr : Rd w A (vI xs)) (hl : xs.length = n) (hn : n ≤ 1099511627776) :
    Calls Tryz.prog 70 #[.slice A n c] w (RetS w 3 1 (vI xs)) := by
  have HL := Lib.hid hl
  clear hl
  go_enter Tryz.func70, Tryz.ntmps70
  go_wp2_with (at_builtin; go_must (refine app_I _ rfl _ _ rfl w.heap.size none 0 0 [] rfl (own_nil _ _ _ _) _ _ _ xs rfl hr HL.out (by omega) (by omega) ?_); intro A' c' w' hown' hg' hat'; simp only [Nat.zero_add, List.nil_append] at hown'; have HO := Lib.hid hown'; have HB := Lib.hid (bel_app (Below.refl w.heap.size w) hg' (fun g h => by cases h)); clear hown' hg' hat')
  go_ret
  exact ⟨_, _, _, rfl, HO.out, HB.out⟩
end Go.Proofs.YtoedmmhiinhljaaGreatDoor

/- The program's search collects tilings in a list. -/
namespace Go.Proofs.YtoedmmhiinhljaaGreatDoor
open Go.RowKit
set_option linter.unusedVariables false
attribute [local go_sem ↓] Go.wp_at_zero Go.wp_at_succ

theorem pop_fallT {free m low : Nat} (hf : free < 2 ^ 36) (hin : m &&& free = m) (hb : m.testBit low = true) : pop (free - (free &&& m)) + 1 ≤ pop free := by
  have hk : ∀ k, m.testBit k = true → free.testBit k = true := fun k h => by
    have h2 := congrArg (fun x => x.testBit k) hin
    simp only [Nat.testBit_and, h, Bool.true_and] at h2
    exact h2
  have hlow : low < 64 := by
    rcases Nat.lt_or_ge low 64 with h | h
    · exact h
    · have h2 := hk low hb
      rw [Nat.testBit_lt_two_pow (Nat.lt_of_lt_of_le hf (Nat.pow_le_pow_right (by decide) (by omega)))] at h2
      cases h2
  have e : free = (free - (free &&& m)) ||| m := Nat.eq_of_testBit_eq fun k => by
    rw [Nat.testBit_or, sub_and_bit (by omega)]
    have h := hk k
    cases h1 : m.testBit k <;> cases h2 : free.testBit k <;> simp_all
  have d : (free - (free &&& m)) &&& m = 0 := Nat.eq_of_testBit_eq fun k => by
    rw [Nat.testBit_and, sub_and_bit (by omega)]
    cases m.testBit k <;> simp
  have h1 := pop_or d
  rw [← e] at h1
  have h2 : 0 < pop m := List.countP_pos_iff.2 ⟨low, by simp; omega, hb⟩
  omega
theorem neqFT (w : World) : Sem.run Tryz.prog (binOp BinOp.neq 87 Value.nilFunc Value.nilFunc) w = .ok (.bool false) w := by kernel_rfl
set_option maxRecDepth 100000 in
set_option maxHeartbeats 6400000 in
theorem fillA (gs base s0 b bm most : Nat) (hs : List H) (L : List Int) (hLl : L.length ≤ 1048576) (hM : Msk 36 L) (hbg : b < gs) (hgs : gs < s0) (hsl : ∀ x ∈ hs, ∀ g, ob x.1 = some g → g < s0) (hne : bm ≠ b) (hbms : bm < s0) (hmost : most ≤ 1000) (htb : 1 < b) :
  ∀ (free : Nat) (l : List Int) (A : Option Addr) (n c m : Nat) (o : Option Addr) (co : Nat) (ho : List H) (Out : List (List Int)) (w : World), Srch base gs w hs (fB L) (.func (.func 50) #[] #[.pointer (some ⟨b, 0, none⟩), .pointer (some ⟨bm, 0, none⟩)]) .nilFunc → Tb w → Blk w b 45 #[.slice o m co] → Blk w bm 3 #[.int .i64 (most : Int)] → Own2 s0 w o m co ho Out → w.ownsRow s0 3 1 (.slice A n c) n (vI l) → (∀ g, ob A = some g → ob o ≠ some g ∧ away ho g) → s0 ≤ w.heap.size → m < most → n + pop free ≤ 1000 → free < 2 ^ 36 →
    Calls Tryz.prog 51 #[.pointer (some ⟨gs, 0, none⟩), .int .i64 (free : Int), .slice A n c] w (FaPost b s0 most o w (outA L free most Out l))
  | free, l, A, n, c, m, o, co, ho, Out, w, hS, hT, hB, hBM, hO, hl, hA, hs0, hm, hnm, hf => by
    have HS := Lib.hid hS
    have HT := Lib.hid hT
    have HB := Lib.hid hB
    have HBM := Lib.hid hBM
    have HO := Lib.hid hO
    have HLO := Lib.hid hl
    have HA := Lib.hid hA
    have HSL := Lib.hid hsl
    have hln : l.length = n := by have := own_len hl; rw [vI_length] at this; omega
    have hOm : Out.length = m := hO.flen
    have HL := Lib.hid hln
    have HOM := Lib.hid hOm
    have HM := Lib.hid hM
    have s0c := hS.cellV.1
    have s1 := hS.cellV.2
    have l0 := hS.blk.lt
    have hbs : b < s0 := by omega
    clear hS hT hB hBM hO hl hA hln hOm hsl
    by_cases h0 : free = 0
    · have hz : ((free : Int) == 0) = true := by simp [h0]
      have HTV : Hid (outA L free most Out l = Out ++ [l]) := by show _ = _; rw [h0]; exact outA_zero L l (by rw [HOM.out]; exact hm)
      clear h0 hM
      go_enter Tryz.func51, Tryz.ntmps51
      go_wp2_with fail
      refine (told_i b bm s0 m co n c most o A ho Out l w HB.out HBM.out HO.out HLO.out HA.out hne hbs hbms hm hmost hs0).mono ?_
      rintro e w1 ⟨rfl, o1, c1, h1, hb1, hO1, hF1⟩
      have H1 := Lib.hid hb1
      have H2 := Lib.hid hO1
      have H3 := Lib.hid hF1
      clear hb1 hO1 hF1
      go_wp2_with fail
      go_ret
      rw [HTV.out]
      exact ⟨by rw [show decide ((Out ++ [l]).length < most) = decide (Out.length + 1 < most) from by rw [List.length_append]; rfl]; rfl, o1, c1, h1, H1.out, H2.out, H3.out⟩
    · have hz : ((free : Int) == 0) = false := by simp [h0]
      obtain ⟨hlb, hl64⟩ := lowN_bit h0 (by omega)
      have htz : ∀ w', Below w.heap.size w w' → Calls Tryz.prog 69 #[.int .u64 (free : Int)] w' (Ret w' (.int .i64 (lowN free : Nat))) := fun w' hb => TZ_l free w' h0 (by omega) (HT.out.below hb)
      have hV : tilV L free = (bitL (lowN free) L).flatMap (tilG L free) := tilV_pos L h0
      have hGm : ∀ m ∈ bitL (lowN free) L, m.toNat.testBit (lowN free) = true := fun m hm => (List.mem_filter.1 hm).2
      have IH : ∀ (f2 : Nat), f2 < free → ∀ (l : List Int) (A : Option Addr) (n c m : Nat) (o : Option Addr) (co : Nat) (ho : List H) (Out : List (List Int)) (w : World), Srch base gs w hs (fB L) (.func (.func 50) #[] #[.pointer (some ⟨b, 0, none⟩), .pointer (some ⟨bm, 0, none⟩)]) .nilFunc → Tb w → Blk w b 45 #[.slice o m co] → Blk w bm 3 #[.int .i64 (most : Int)] → Own2 s0 w o m co ho Out → w.ownsRow s0 3 1 (.slice A n c) n (vI l) → (∀ g, ob A = some g → ob o ≠ some g ∧ away ho g) → s0 ≤ w.heap.size → m < most → n + pop f2 ≤ 1000 → f2 < 2 ^ 36 →
        Calls Tryz.prog 51 #[.pointer (some ⟨gs, 0, none⟩), .int .i64 (f2 : Int), .slice A n c] w (FaPost b s0 most o w (outA L f2 most Out l)) := fun f2 hlt l A n c m o co ho Out w => fillA gs base s0 b bm most hs L hLl hM hbg hgs HSL.out hne hbms hmost htb f2 l A n c m o co ho Out w
      obtain ⟨low, hlo⟩ : ∃ low, lowN free = low := ⟨_, rfl⟩
      rw [hlo] at htz hl64 hlb hV hGm
      have hlow36 : low < 36 := by
        rcases Nat.lt_or_ge low 36 with h | h
        · exact h
        · rw [Nat.testBit_lt_two_pow (Nat.lt_of_lt_of_le hf (Nat.pow_le_pow_right (by decide) h))] at hlb
          cases hlb
      have hlh : low < hs.length := by rw [HS.out.hlen]; omega
      have hlf : low < (fB L).length := by rw [fB_len]; omega
      have d0 := HS.out.cell hlh
      have o0 := HS.out.row low hlh hlf
      rw [fB_at] at o0
      have HLH := Lib.hid hlh
      have HLF := Lib.hid hlf
      obtain ⟨M, hMM⟩ : ∃ M, bitL low L = M := ⟨_, rfl⟩
      have hMl : M.length ≤ 1048576 := by have := bitL_len low L; rw [hMM] at this; omega
      have hMk : Msk 36 M := hMM ▸ bitL_msk hM
      rw [hMM] at o0 hV hGm
      have hrowM : ∀ w', Srch base gs w' hs (fB L) (.func (.func 50) #[] #[.pointer (some ⟨b, 0, none⟩), .pointer (some ⟨bm, 0, none⟩)]) .nilFunc → Rd w' (hs[low]'hlh).1 (vI M) := fun w' h => by have := Rd.of_own (h.row low HLH.out HLF.out); rwa [fB_at, hMM] at this
      obtain ⟨D, hD⟩ : ∃ D, (hs[low]'hlh).1 = D := ⟨_, rfl⟩
      obtain ⟨q, hq⟩ : ∃ q, (hs[low]'hlh).2.1 = q := ⟨_, rfl⟩
      obtain ⟨cc, hcc⟩ : ∃ cc, (hs[low]'hlh).2.2 = cc := ⟨_, rfl⟩
      rw [hD, hq, hcc] at d0 o0
      rw [hD] at hrowM
      have hMq : M.length = q := by have := own_len o0; rw [vI_length] at this; omega
      have hcv : IntKind.u64.wrap (free : Int) = (free : Int) := by rw [IntKind.wrap_u64]; omega
      have hlo0 : (0 : Int) ≤ (low : Int) := by omega
      have hlo64 : (low : Int) < 64 := by omega
      have HRM := Lib.hid @hrowM
      have HMQ := Lib.hid hMq
      have HMK := Lib.hid hMk
      have HV := Lib.hid hV
      have HGM := Lib.hid hGm
      have HIH := Lib.hid @IH
      have HTZ := Lib.hid @htz
      have HF := Lib.hid hf
      have hqm : q ≤ 1048576 := by omega
      have HNM := Lib.hid hnm
      have hn1000 : n ≤ 1000 := by omega
      clear h0 hlb hl64 htz hV IH hlo o0 hMM hMl hMk hD hq hcc hMq hM hlh hlf hf hGm hnm hrowM
      go_enter Tryz.func51, Tryz.ntmps51
      go_wp2_with fail
      (refine wp_region_below (by kernel_rfl) (by kernel_rfl) ?_; (repeat (first | go_big_quiet_skip | (refine quietV (v := ?_) (by rfl) rfl (fun w' hbw => ?_) ?_; rotate_left; ((try dsimp only at hbw); have hbc := (bcell hbw).1; have hbf := (bcell hbw).2; go_simp; first | done | with_reducible rfl | (with_reducible exact callsB (v := .int .i64 (low : Int)) (HTZ.out _ (by with_reducible assumption)) hbw)); simp only [List.setIfInBounds_toArray, List.set_cons_zero, List.set_cons_succ]))); refine wpQuiet_nil ?_; intro w1 hb1)
      have HB1 := Lib.hid hb1
      clear hb1 d0 l0 s0c s1
      go_wp2_with fail
      go_loopw [26] (fun e26 wr => ∃ (i m1 co1 : Nat) (o1 : Option Addr) (ho1 : List H) (Out1 : List (List Int)), i ≤ q ∧ e26 = .int .i64 i ∧ Out1 = Out ++ ((M.take i).flatMap (tilG L free)).map (l ++ ·) ∧ m1 < most ∧ Blk wr b 45 #[.slice o1 m1 co1] ∧ Own2 s0 wr o1 m1 co1 ho1 Out1 ∧ PzFr b o w wr o1) (fun e26 _ => q - (intOf e26).toNat)
      case atStart => exact ⟨0, m, co, o, ho, Out, Nat.zero_le _, rfl, by simp, hm, HB.out.below HB1.out, HO.out.below HB1.out, PzFr.of_below HB1.out⟩
      case round =>
        clear HB1
        obtain ⟨i, m1, co1, o1, ho1, Out1, hi, rfl, hout, hm1m, hb1, hO1, hF1⟩ := hrel
        have hoS : ∀ g, ob o = some g → s0 ≤ g := fun g e => (own_lt HO.out.own g e).1
        have S := HS.out.fr hF1 hbg hgs HSL.out hoS
        have T := tb_fr HT.out hF1 htb hoS hbs
        have BM := hF1.blk HBM.out hne (fun e => by have := hoS _ e; omega)
        have RL : Rd wr A (vI l) := hF1.rd (Rd.of_own HLO.out) (fun g e => ⟨by have := (own_lt HLO.out g e).1; omega, (HA.out g e).1⟩)
        have hsz := hF1.size
        have HOUT := Lib.hid hout
        have HBX := Lib.hid hb1
        have HO1 := Lib.hid hO1
        have HF1 := Lib.hid hF1
        have HOL1 := Lib.hid hO1.flen
        have HSR := Lib.hid S
        have HTR := Lib.hid T
        have HBMR := Lib.hid BM
        have HRL := Lib.hid RL
        clear hout hb1 hO1 hF1 T BM RL hoS
        by_cases hlt : i < q
        · have hi0 : (0 : Int) ≤ (i : Int) := by omega
          have hi1 : (i : Int) < (q : Int) := by omega
          have hil : i < M.length := by rw [HMQ.out]; exact hlt
          obtain ⟨g, off, hA, hg, d1⟩ := RdI.at_ (HRM.out wr S) hil
          obtain ⟨m, hm, hm36⟩ := HMK.out _ (List.getElem_mem hil)
          have hmb := HGM.out _ (List.getElem_mem hil)
          rw [hm] at d1 hmb
          rw [Int.toNat_natCast] at hmb
          have hsp := flat_splitT (f := tilG L free) hil
          have hsn := flat_snocT (f := tilG L free) hil
          rw [hm] at hsp hsn
          have HSP := Lib.hid (HV.out.trans hsp)
          have HSN := Lib.hid hsn
          have HMB := Lib.hid hmb
          have s1 := S.cellV.2
          have l0 := S.blk.lt
          obtain ⟨r6, hr6⟩ : ∃ r6, m - (m &&& free) = r6 := ⟨_, rfl⟩
          have hand : bits .andNot .i64 (m : Int) (free : Int) = (r6 : Int) := by rw [i64_andNot m free (by omega) (by have := HF.out; omega), hr6]
          subst hA
          by_cases hin : r6 = 0
          · have hr0 : ((r6 : Int) != 0) = false := by simp [hin]
            have hmf : m &&& free = m := by have h1 : m &&& free ≤ m := Nat.and_le_left; omega
            obtain ⟨f2, hf2⟩ : ∃ f2, free - (free &&& m) = f2 := ⟨_, rfl⟩
            have hand2 : bits .andNot .i64 (free : Int) (m : Int) = (f2 : Int) := by rw [i64_andNot free m (by have := HF.out; omega) (by omega), hf2]
            have hfm : free - m = f2 := by rw [← hf2, Nat.and_comm, hmf]
            have hpop := pop_fallT HF.out hmf HMB.out
            have hm1 := bit_pos HMB.out
            have hmle : m ≤ free := by rw [← hmf]; exact Nat.and_le_right
            rw [hf2] at hpop
            have hG2 : tilG L free (m : Int) = (tilV L f2).map ((m : Int) :: ·) := by
              unfold tilG
              rw [Int.toNat_natCast, if_pos (by unfold inM; rw [hmf]; simp), hfm]
            rw [hG2] at hsp hsn
            have HSP := Lib.hid (HV.out.trans hsp)
            have HSN := Lib.hid hsn
            have HN2 := Lib.hid (by have := HNM.out; omega : n + 1 + pop f2 ≤ 1000)
            have HF2 := Lib.hid (by have := HF.out; omega : f2 < 2 ^ 36)
            have HLT := Lib.hid (by omega : f2 < free)
            have hm63 : (m : Int) < 9223372036854775808 := by omega
            have hrun := neqFT wr
            clear hr6 hin hmf hf2 hfm hpop hm1 hmle hsp hsn hG2 hmb S hm
            go_wp2_with fail
            refine (copyInts_i A n c l _ HRL.out HL.out (by omega)).mono ?_
            rintro e w2 ⟨D2, q2, c2, rfl, hO2, hb2⟩
            obtain rfl : q2 = n := by have := own_len hO2; rw [vI_length, HL.out] at this; omega
            have HO2 := Lib.hid hO2
            have HBR := Lib.hid hb2
            clear hO2 hb2 d1
            go_wp2_with (at_builtin; go_must (refine app_I _ rfl _ _ rfl wr.heap.size _ _ _ l rfl (HO2.out.alloc _) _ _ _ [(m : Int)] rfl (rd_newI _ _ _) rfl (by omega) (by have := HBR.out.size; simp; omega) ?_); intro D6 c6 w6 ho6 hg6 hat6; have HO6 := Lib.hid ho6; have HG6 := Lib.hid hg6; clear ho6 hg6 hat6)
            have hb6 : Below wr.heap.size wr w6 := bel_app (bel_alloc HBR.out _) HG6.out (fun g9 e9 => (own_lt HO2.out g9 e9).1)
            have HB6 := Lib.hid hb6
            have hD6 := own_lt HO6.out
            have hC := HIH.out f2 HLT.out (l ++ [(m : Int)]) D6 (q2 + 1) c6 m1 o1 co1 ho1 Out1 w6 (HSR.out.below hb6) (HTR.out.below hb6) (HBX.out.below hb6) (HBMR.out.below hb6) (HO1.out.below hb6) (own_base HO6.out (by omega))
              (fun g e => ⟨fun r => by have h1 := (hD6 g e).1; have h2 := (own_lt HO1.out.own g r).2; omega, fun x hx r => by
                obtain ⟨k, hk, rfl⟩ := List.mem_iff_getElem.1 hx
                have h1 := (hD6 g e).1
                have h2 := (own_lt (HO1.out.row k hk (HO1.out.len ▸ hk)) g r).2
                omega⟩) (by have := hb6.size; omega) hm1m HN2.out HF2.out
            clear hb6
            refine hC.mono ?_
            rintro e w7 ⟨rfl, o7, c7, h7, hb7, hO7, hF7⟩
            have hG7 : outA L f2 most Out1 (l ++ [(m : Int)]) = outA L f2 most (Out ++ ((M.take i).flatMap (tilG L free)).map (l ++ ·)) (l ++ [(m : Int)]) := by rw [HOUT.out]
            have HF7 := Lib.hid (HF1.out.trans ((PzFr.of_below HB6.out).trans hF7))
            obtain ⟨G, hG⟩ : ∃ G, outA L f2 most Out1 (l ++ [(m : Int)]) = G := ⟨_, rfl⟩
            rw [hG] at hb7 hO7 ⊢
            have HB7 := Lib.hid hb7
            have HO7 := Lib.hid hO7
            clear hb7 hO7 hF7 hC hD6
            by_cases hGl : G.length < most
            · have hdt : decide (G.length < most) = true := decide_eq_true hGl
              have HG : Hid (G = Out ++ ((M.take (i + 1)).flatMap (tilG L free)).map (l ++ ·)) := by
                show _ = _
                rw [HSN.out, ← hG, hG7]
                exact outA_more (by rw [← hG7, hG]; exact hGl)
              rw [hdt]
              clear hG hG7 hdt
              go_wp2_with fail
              exact ⟨⟨i + 1, G.length, c7, o7, h7, G, by omega, by go_num, HG.out, hGl, HB7.out, HO7.out, HF7.out⟩, by simp [intOf]; omega⟩
            · have hdt : decide (G.length < most) = false := decide_eq_false hGl
              have HG : Hid (outA L free most Out l = G) := by
                show _ = _
                rw [← hG, hG7]
                exact (outA_stop HSP.out (by rw [← HOUT.out, HOL1.out]; exact hm1m) (by rw [← hG7, hG]; exact hGl)).symm
              rw [hdt]
              have HGL := Lib.hid hGl
              clear hG hG7 hdt hGl
              go_wp2_with fail
              go_ret
              rw [HG.out]
              exact ⟨by rw [decide_eq_false HGL.out]; rfl, o7, c7, h7, HB7.out, HO7.out, HF7.out⟩
          · have hr0 : ((r6 : Int) != 0) = true := by simp [hin]
            have HS2 : Hid (Out1 = Out ++ ((M.take (i + 1)).flatMap (tilG L free)).map (l ++ ·)) := by
              show _ = _
              rw [HSN.out, HOUT.out]
              congr 2
              unfold tilG
              rw [Int.toNat_natCast, if_neg (by unfold inM; simp only [beq_iff_eq]; intro h2; omega), List.append_nil]
            clear hr6 hin hsp hsn hmb S hm
            go_wp2_with fail
            exact ⟨⟨i + 1, m1, co1, o1, ho1, Out1, by omega, by go_num, HS2.out, hm1m, HBX.out, HO1.out, HF1.out⟩, by simp [intOf]; omega⟩
        · have hi1 : ¬ (i : Int) < (q : Int) := by omega
          have HEV : Hid (outA L free most Out l = Out1) := by
            show _ = _
            have e : (M.take i).flatMap (tilG L free) = tilV L free := by rw [HV.out, List.take_of_length_le (by rw [HMQ.out]; omega)]
            rw [HOUT.out, e]
            exact (outA_end (by rw [← e, ← HOUT.out, HOL1.out]; exact hm1m)).symm
          clear S
          go_wp2_with fail
          go_ret
          rw [HEV.out]
          have h8 := HOL1.out
          exact ⟨by rw [decide_eq_true (by omega)]; rfl, o1, co1, ho1, by rw [h8]; exact HBX.out, by rw [h8]; exact HO1.out, HF1.out⟩
termination_by free => free
decreasing_by exact hlt
end Go.Proofs.YtoedmmhiinhljaaGreatDoor

/- The program's first tilings. -/
namespace Go.Proofs.YtoedmmhiinhljaaGreatDoor
open Go.RowKit
set_option linter.unusedVariables false
attribute [local go_sem ↓] Go.wp_at_zero Go.wp_at_succ

set_option maxRecDepth 100000 in
set_option maxHeartbeats 3200000 in
theorem firstTilings_i (A : Option Addr) (q c free most : Nat) (L : List Int) (w : World) (hr : Rd w A (vI L)) (hl : L.length = q) (hq : q ≤ 1048576) (hM : Msk 36 L) (hf : free < 2 ^ 36) (hT : Tb w) (hm0 : 0 < most) (hmost : most ≤ 900) :
    Calls Tryz.prog 30 #[.slice A q c, .int .i64 (free : Int), .int .i64 (most : Int)] w (RetO2 w ((tilV L free).take most)) := by
  have htb := World.block_lt_of_cell? w _ (hT 0 (by decide))
  have hb0 := bel_alloc (bel_alloc (Below.refl w.heap.size w) (.cells #[.int .i64 (most : Int)] 3)) (.cells #[.slice none 0 0] 45)
  have n5 := (Blk.new w 3 #[.int .i64 (most : Int)]).alloc (.cells #[.slice none 0 0] 45)
  have n8 := (Blk.new (w.alloc (.cells #[.int .i64 (most : Int)] 3)) 45 #[.slice none 0 0])
  rw [World.size_alloc] at n8
  have hR0 := hr.below hb0
  have hT0 := hT.below hb0
  have hz0 : ((w.alloc (.cells #[.int .i64 (most : Int)] 3)).alloc (.cells #[.slice none 0 0] 45)).heap.size = w.heap.size + 2 := by simp
  obtain ⟨w0, hw0⟩ : ∃ w0, (w.alloc (.cells #[.int .i64 (most : Int)] 3)).alloc (.cells #[.slice none 0 0] 45) = w0 := ⟨_, rfl⟩
  rw [hw0] at hb0 n5 n8 hR0 hT0 hz0
  have HZ0 := Lib.hid hz0
  have HW0 := Lib.hid hw0
  have HB0 := Lib.hid hb0
  have HV5 := Lib.hid n5
  have HV8 := Lib.hid n8
  have HR0 := Lib.hid hR0
  have HT0 := Lib.hid hT0
  have HL := Lib.hid hl
  have HM := Lib.hid hM
  have HF := Lib.hid hf
  have hp64 : pop free ≤ 64 := by unfold pop; have h := List.countP_le_length (p := fun i => free.testBit i) (l := List.range 64); simpa using h
  clear hw0 hb0 n5 n8 hR0 hT0 hr hl hM hf hT hz0
  go_enter Tryz.func30, Tryz.ntmps30
  go_wp2_with fail
  rw [HW0.out]
  clear HW0
  refine (newSearch_f _ _ A q c L w0 HR0.out HL.out hq HM.out).mono ?_
  rintro e w1 ⟨gs, hs, rfl, hS, hgs, hb1⟩
  have HS := Lib.hid hS
  have HB1 := Lib.hid hb1
  have HV1 := Lib.hid (HV5.out.below hb1)
  have HW1 := Lib.hid (HV8.out.below hb1)
  have HT1 := Lib.hid (HT0.out.below hb1)
  have HGS := Lib.hid hgs
  have hgl := hS.blk.lt
  clear hS hb1 HR0 hgs
  go_wp2_with fail
  refine (fillA gs (gs + 1) w1.heap.size (w.heap.size + 1) w.heap.size most hs L (by have := HL.out; omega) HM.out (by have := HGS.out; have := HZ0.out; omega) hgl (fun x hx g e => by
      obtain ⟨k, hk, rfl⟩ := List.mem_iff_getElem.1 hx
      exact (own_lt (HS.out.row k hk (by rw [HS.out.flen, ← HS.out.hlen]; exact hk)) g e).2) (by omega) (by have := HB1.out.size; have := HZ0.out; omega) (by omega) (by omega)
    free [] none 0 0 0 none 0 [] [] w1 HS.out HT1.out HW1.out HV1.out (Own2.nil _ _) ⟨rfl, .inl ⟨rfl, rfl⟩⟩ (fun g e => by cases e) (Nat.le_refl _) hm0 (by omega) HF.out).mono ?_
  rw [outA_nil]
  rintro e w2 ⟨rfl, o2, c2, h2, hb2, hO2, hF2⟩
  obtain ⟨G, hG⟩ : ∃ G, (tilV L free).take most = G := ⟨_, rfl⟩
  rw [hG] at hb2 hO2 ⊢
  have d0 : w2.cell? ⟨w.heap.size + 1, 0, none⟩ = some (.slice o2 G.length c2) := by simpa using hb2.cell 0
  have l0 := hb2.lt
  have hbel : Below w.heap.size w w2 := ⟨hF2.os.trans (HB1.out.os.trans HB0.out.os), hF2.tape.trans (HB1.out.tape.trans HB0.out.tape), hF2.output.trans (HB1.out.output.trans HB0.out.output), by have h1 := hF2.size; have h2 := HB1.out.size; have h3 := HZ0.out; omega, fun k hk => by
    have h2 := HB1.out.size
    have h3 := HZ0.out
    rw [hF2.block k (by omega) (by omega) (by simp [ob]), HB1.out.block k (by omega), HB0.out.block k hk]⟩
  have HBL := Lib.hid hbel
  have HO2 := Lib.hid (hO2.mono (show w.heap.size ≤ w1.heap.size by have h2 := HB1.out.size; have h3 := HZ0.out; omega))
  have HGE := Lib.hid hG
  clear hG hb2 hO2 hF2 hbel
  go_wp2_with fail
  go_ret
  rw [HGE.out]
  exact ⟨o2, G.length, c2, h2, rfl, HO2.out, HBL.out⟩
end Go.Proofs.YtoedmmhiinhljaaGreatDoor

/- Cells put in order: the library's sort at twelve cells or fewer, with the program's own test. -/
namespace Go.Proofs.YtoedmmhiinhljaaGreatDoor
open Go.RowKit Go.Shelf
set_option linter.unusedVariables false
attribute [local go_sem ↓] Go.wp_at_zero Go.wp_at_succ

theorem sto_default (l : List C) {i : Nat} (h : i < l.length) : l.getD i default = l[i] := getD_in l h
set_option maxHeartbeats 800000 in
/-- The test: does cell i come before cell j? -/
theorem lessCells (Bs base g n c : Nat) (l : List C) (i j : Nat) (w : World) (ho : w.ownsRow base 66 2 (.slice (some ⟨g, 0, none⟩) n c) n (vC l)) (hB : w.cell? ⟨Bs, 0, none⟩ = some (.slice (some ⟨g, 0, none⟩) n c)) (hi : i < n) (hj : j < n) (b : Bool)
    (hb : b = befC (l.getD i default) (l.getD j default)) : Calls Tryz.prog 132 #[.int .i64 (i : Int), .int .i64 (j : Int), .pointer (some ⟨Bs, 0, none⟩)] w (Ret w (.bool b)) := by
  have hl : l.length = n := by have := own_len ho; rw [vC_length] at this; omega
  have hg := (own_lt ho g rfl).2
  obtain ⟨g1, o1, e1, _, a1, a2⟩ := RdC.at_ (Rd.of_own ho) (show i < l.length by omega)
  obtain ⟨g2, o2, e2, _, b1, b2⟩ := RdC.at_ (Rd.of_own ho) (show j < l.length by omega)
  simp only [Option.some.injEq, Addr.mk.injEq, and_true] at e1 e2
  obtain ⟨rfl, rfl⟩ := e1
  obtain ⟨h1, rfl⟩ := e2
  rw [Nat.zero_add] at a1 a2 b1 b2
  rw [← h1] at b1 b2
  rw [sto_default l (by omega), sto_default l (by omega)] at hb
  obtain ⟨x, hx⟩ : ∃ x, l[i].1 = x := ⟨_, rfl⟩
  obtain ⟨y, hy⟩ : ∃ y, l[i].2 = y := ⟨_, rfl⟩
  obtain ⟨p, hp⟩ : ∃ p, l[j].1 = p := ⟨_, rfl⟩
  obtain ⟨q, hq⟩ : ∃ q, l[j].2 = q := ⟨_, rfl⟩
  rw [show l[i] = (x, y) from Prod.ext hx hy, show l[j] = (p, q) from Prod.ext hp hq] at hb
  rw [hx] at a1
  rw [hy] at a2
  rw [hp] at b1
  rw [hq] at b2
  have HV := Lib.hid hb.symm
  have hBl := World.block_lt_of_cell? w _ hB
  have hi0 : (0 : Int) ≤ (i : Int) := by omega
  have hi1 : (i : Int) < (n : Int) := by omega
  have hj0 : (0 : Int) ≤ (j : Int) := by omega
  have hj1 : (j : Int) < (n : Int) := by omega
  clear ho hx hy hp hq hb h1 hl
  go_enter Tryz.func132, Tryz.ntmps132
  go_wp2_with fail
  (refine wp_region_below (by kernel_rfl) (by kernel_rfl) ?_; (repeat (first | go_big_quiet_skip | (refine quietV (v := ?_) (by rfl) rfl (fun w' hbw => ?_) ?_; rotate_left; ((try dsimp only at hbw); have hbc := (bcell hbw).1; have hbf := (bcell hbw).2; go_simp; first | done | with_reducible rfl | exact callsBB (before_i x y p q _) HV.out hbw); simp only [List.setIfInBounds_toArray, List.set_cons_zero, List.set_cons_succ]))); refine wpQuiet_nil ?_; intro wq hbq)
  go_wp2_with fail
  go_ret
  exact ⟨rfl, hbq⟩
theorem own_put {w : World} {base g n c : Nat} {l : List C} (ho : w.ownsRow base 66 2 (.slice (some ⟨g, 0, none⟩) n c) n (vC l)) (k : Nat) (v : C) :
    (w.setCells g (0 + k * 2) [.int .i64 v.1, .int .i64 v.2]).ownsRow base 66 2 (.slice (some ⟨g, 0, none⟩) n c) n (vC (l.set k v)) := by
  have h := ((ho.stored (k * 2) (.int .i64 v.1)).1.stored (k * 2 + 1) (.int .i64 v.2)).1
  rw [vC_set_list] at h
  rw [Nat.zero_add]
  exact h
theorem grown_alloc1 {w w' : World} {o : Obj} {row : Option Nat} (h : (w.alloc o).grownBy w' row) : w.grownBy w' row :=
  ⟨h.os, h.tape, h.output, by have := h.size; simp at this; omega, fun k hk hne => (h.block k (by simp; omega) hne).trans (Below.heap_alloc w o k hk)⟩
theorem grown_of_alloc (w : World) (o : Obj) (r : Option Nat) : w.grownBy (w.alloc o) r := ⟨rfl, rfl, rfl, by simp, fun k hk _ => Below.heap_alloc w o k hk⟩
theorem grown_cells {a w : World} {g o : Nat} (h : a.grownBy w (some g)) (x y : Value) : a.grownBy (w.setCells g o [x, y]) (some g) := grown_set (grown_set h rfl x) rfl y
theorem infoCI : ∃ ie, Tryz.prog.info? 66 = some ie ∧ ie.size = 2 := by
  obtain ⟨i0, hi, _, hz1, _⟩ := info_parts infoC
  exact ⟨i0, hi, hz1⟩
theorem swapCells (sf : Nat) (gS : Bool) (hx : ∀ args W, (callFunc sf args).run Tryz.prog W = ((Extern.ReflectliteSwapper.swap gS args).run Tryz.prog W).andThen fun v w' => .ok (.value v) w') (hagg : ∀ w, (isAgg 66).run Tryz.prog w = .ok true w)
    (base g n c : Nat) (l : List C) (i j : Nat) (w : World) (ho : w.ownsRow base 66 2 (.slice (some ⟨g, 0, none⟩) n c) n (vC l)) (hi : i < n) (hj : j < n) :
    ∃ w', (callFunc sf #[.int .i64 (i : Int), .int .i64 (j : Int), .slice (some ⟨g, 0, none⟩) n c, typeHandle Tryz.prog 66]).run Tryz.prog w = .ok (.value (.tuple #[])) w' ∧
      w'.ownsRow base 66 2 (.slice (some ⟨g, 0, none⟩) n c) n (vC (swL l i j)) ∧ ∀ a, World.grownBy a w (some g) → World.grownBy a w' (some g) := by
  have hl : l.length = n := by have := own_len ho; rw [vC_length] at this; omega
  obtain ⟨ie, hie, hsz⟩ := infoCI
  have hcell : ∀ k (hk : k < n), ∀ u v, ([.int .i64 (l.getD k default).1, .int .i64 (l.getD k default).2] : List Value)[u]? = some v → w.cell? ⟨g, 0 + k * 2 + u, none⟩ = some v := by
    intro k hk u v h
    obtain ⟨g1, o1, e1, _, a1, a2⟩ := RdC.at_ (Rd.of_own ho) (show k < l.length by omega)
    simp only [Option.some.injEq, Addr.mk.injEq, and_true] at e1
    obtain ⟨rfl, rfl⟩ := e1
    rw [sto_default l (by omega)] at h
    match u, h with
    | 0, h => simp at h; rw [← h]; exact a1
    | 1, h => simp at h; rw [← h]; exact a2
    | u + 2, h => simp at h
  have hfro : ∀ o, w.frozen? ⟨g, o, none⟩ = false := fun o => ho.frozenAt o
  have hr := Lib.run_swap_cells (P := Tryz.prog) gS 66 ie hie hagg g 0 n c i j hi hj [.int .i64 (l.getD i default).1, .int .i64 (l.getD i default).2] [.int .i64 (l.getD j default).1, .int .i64 (l.getD j default).2]
    (by rw [hsz]; rfl) (by rw [hsz]; rfl) (by simp [Value.oneCell']) (by simp [Value.oneCell']) w (by rw [hsz]; exact hcell i hi) (by rw [hsz]; exact hcell j hj) (fun k _ => hfro _) (fun k _ => hfro _)
  rw [hsz] at hr
  refine ⟨_, ?_, own_put (own_put ho i (l.getD j default)) j (l.getD i default), fun a h => grown_cells (grown_cells h _ _) _ _⟩
  rw [hx, hr]
  rfl
/-- The row in order. -/
def SrtP (w : World) (base g n c : Nat) (l : List C) (e : Ending) (w' : World) : Prop :=
  e = .returned (.tuple #[]) ∧ ∃ l', l'.length = n ∧ (∀ x, x ∈ l' ↔ x ∈ l) ∧ l'.Pairwise (fun a b => befC b a = false) ∧ w'.ownsRow base 66 2 (.slice (some ⟨g, 0, none⟩) n c) n (vC l') ∧ w.grownBy w' (some g)
/-- What is asked of the exchange. -/
def Swaps (sf : Nat) (th : Value) (base g n c : Nat) : Prop := ∀ (w : World) (l : List C) (i j : Nat), w.ownsRow base 66 2 (.slice (some ⟨g, 0, none⟩) n c) n (vC l) → i < n → j < n →
  ∃ w', (callFunc sf #[.int .i64 (i : Int), .int .i64 (j : Int), .slice (some ⟨g, 0, none⟩) n c, th]).run Tryz.prog w = .ok (.value (.tuple #[])) w' ∧
      w'.ownsRow base 66 2 (.slice (some ⟨g, 0, none⟩) n c) n (vC (swL l i j)) ∧ ∀ a, World.grownBy a w (some g) → World.grownBy a w' (some g)
set_option maxHeartbeats 3200000 in
theorem insSort (sf : Nat) (th : Value) (Bs base g n c : Nat) (hsw : Swaps sf th base g n c) (l0 : List C) (w : World) (ho : w.ownsRow base 66 2 (.slice (some ⟨g, 0, none⟩) n c) n (vC l0)) (hB : w.cell? ⟨Bs, 0, none⟩ = some (.slice (some ⟨g, 0, none⟩) n c)) (hBg : Bs ≠ g) (hn : 1 ≤ n) (hn12 : n ≤ 12) :
    Calls Tryz.prog 101 #[.agg #[.func (.func 132) #[] #[.pointer (some ⟨Bs, 0, none⟩)], .func (.func sf) #[] #[.slice (some ⟨g, 0, none⟩) n c, th]], .int .i64 0, .int .i64 (n : Int)] w (SrtP w base g n c l0) := by
  have hl0 : l0.length = n := by have := own_len ho; rw [vC_length] at this; omega
  have hgl := (own_lt ho g rfl).2
  have HL := Lib.hid hl0
  have HO := Lib.hid ho
  have HBC := Lib.hid hB
  have HSW := Lib.hid hsw
  have HBB := Lib.hid (Blk.new w 106 #[.func (.func 132) #[] #[.pointer (some ⟨Bs, 0, none⟩)], .func (.func sf) #[] #[.slice (some ⟨g, 0, none⟩) n c, th]])
  clear hsw ho hB hl0
  go_enter Tryz.func101, Tryz.ntmps101
  go_wp2
  go_loopw [6] (fun e6 wr => ∃ (i : Nat) (l : List C), 1 ≤ i ∧ i ≤ n ∧ e6 = .int .i64 i ∧ l.length = n ∧ (∀ x, x ∈ l ↔ x ∈ l0) ∧ OrdTo befC l i ∧ wr.ownsRow base 66 2 (.slice (some ⟨g, 0, none⟩) n c) n (vC l) ∧ (w.alloc (.cells #[.func (.func 132) #[] #[.pointer (some ⟨Bs, 0, none⟩)], .func (.func sf) #[] #[.slice (some ⟨g, 0, none⟩) n c, th]] 106)).grownBy wr (some g)) (fun e6 _ => n - (intOf e6).toNat)
  case atStart => exact ⟨1, l0, by omega, by omega, by simp, HL.out, fun x => Iff.rfl, OrdTo.start l0, HO.out.alloc _, World.grownBy.refl _ _⟩
  case round =>
    obtain ⟨i, l, hi1, hin, rfl, hll, hmem, hord, hown, hg⟩ := hrel
    have HLL := Lib.hid hll
    have HM := Lib.hid hmem
    have HOR := Lib.hid hord
    have HOW := Lib.hid hown
    have HG := Lib.hid hg
    clear hll hmem hord hown hg
    by_cases hlt : i < n
    · have hiI : (i : Int) < (n : Int) := by omega
      go_wp2
      go_loopw [7] (fun e7 wr => ∃ (j : Nat) (l : List C), j ≤ i ∧ e7 = .int .i64 j ∧ l.length = n ∧ (∀ x, x ∈ l ↔ x ∈ l0) ∧ NearO befC l i j ∧ wr.ownsRow base 66 2 (.slice (some ⟨g, 0, none⟩) n c) n (vC l) ∧ (w.alloc (.cells #[.func (.func 132) #[] #[.pointer (some ⟨Bs, 0, none⟩)], .func (.func sf) #[] #[.slice (some ⟨g, 0, none⟩) n c, th]] 106)).grownBy wr (some g)) (fun e7 _ => (intOf e7).toNat)
      case atStart => exact ⟨i, l, Nat.le_refl _, rfl, HLL.out, HM.out, HOR.out.near, HOW.out, HG.out⟩
      case round =>
        clear HLL HM HOR HOW HG
        obtain ⟨j, l, hji, rfl, hll, hmem, hnear, hown, hg⟩ := hrel
        have HLL := Lib.hid hll
        have HM := Lib.hid hmem
        have HN := Lib.hid hnear
        have HOW := Lib.hid hown
        have HG := Lib.hid hg
        clear hll hmem hnear hown hg
        by_cases hj0 : 0 < j
        · obtain ⟨p, hp⟩ : ∃ p, j = p + 1 := ⟨j - 1, by omega⟩
          have hjI : (j : Int) > 0 := by omega
          have hpI : (j : Int) - 1 = (p : Int) := by omega
          have hpw : IntKind.i64.wrap (p : Int) = (p : Int) := Go.IntWalk.i64_in _ (by omega)
          have HP := Lib.hid hp
          have hBB := HBB.out.grown HG.out (fun e => by injection e with e; omega)
          have b0 : wr.cell? ⟨w.heap.size, 0, none⟩ = some (.func (.func 132) #[] #[.pointer (some ⟨Bs, 0, none⟩)]) := by simpa using hBB.cell 0
          have b1 : wr.cell? ⟨w.heap.size, 1, none⟩ = some (.func (.func sf) #[] #[.slice (some ⟨g, 0, none⟩) n c, th]) := by simpa using hBB.cell 1
          have bl := hBB.lt
          have HBC2 := Lib.hid (keep_grown HG.out (keep_alloc HBC.out) (by simpa using hBg))
          have HBW := Lib.hid hBB
          have hjn : j < n := by omega
          have hpn : p < n := by omega
          clear hBB hp
          cases hbf : befC (l.getD j default) (l.getD p default) with
          | true =>
            have HBF := Lib.hid hbf
            clear hbf
            go_wp2_with fail
            refine (lessCells Bs base g n c l j p _ HOW.out HBC2.out hjn hpn true HBF.out.symm).mono ?_
            rintro e w1 ⟨rfl, hb1⟩
            have hBB1 := HBW.out.below hb1
            have c1 : w1.cell? ⟨w.heap.size, 1, none⟩ = some (.func (.func sf) #[] #[.slice (some ⟨g, 0, none⟩) n c, th]) := by simpa using hBB1.cell 1
            have cl := hBB1.lt
            obtain ⟨w2, hrun, ho2, hg2⟩ := HSW.out w1 l j p (own_keep HOW.out hb1) hjn hpn
            have HO2 := Lib.hid ho2
            have HG2 := Lib.hid (hg2 _ (grown_below HG.out hb1))
            have HN2 : Hid (NearO befC (swL l j p) i p) := by
              have h1 := HN.out
              rw [HP.out] at h1 ⊢
              exact h1.step befC_sto (by omega) (by rw [HLL.out]; exact hlt) (by rw [← HP.out]; exact HBF.out)
            clear hBB1 ho2 hg2 b0 b1 bl
            go_wp2_with fail
            exact ⟨⟨p, swL l j p, by omega, rfl, by rw [swL_len]; exact HLL.out, fun x => (swL_mem l (by rw [HLL.out]; exact hjn) (by rw [HLL.out]; exact hpn) x).trans (HM.out x), HN2.out, HO2.out, HG2.out⟩, by simp [intOf]; omega⟩
          | false =>
            have HBF := Lib.hid hbf
            clear hbf
            go_wp2_with fail
            refine (lessCells Bs base g n c l j p _ HOW.out HBC2.out hjn hpn false HBF.out.symm).mono ?_
            rintro e w1 ⟨rfl, hb1⟩
            have HO2 : Hid (OrdTo befC l (i + 1)) := by
              have h1 := HN.out
              rw [HP.out] at h1
              exact h1.stop befC_sto (by have := HP.out; omega) (by rw [← HP.out]; exact HBF.out)
            go_wp2_with fail
            exact ⟨⟨i + 1, l, by omega, by omega, by go_num, HLL.out, HM.out, HO2.out, own_keep HOW.out hb1, grown_below HG.out hb1⟩, by simp [intOf]; omega⟩
        · obtain rfl : j = 0 := by omega
          have HO2 := Lib.hid (HN.out.zero)
          clear hj0
          go_wp2_with fail
          exact ⟨⟨i + 1, l, by omega, by omega, by go_num, HLL.out, HM.out, HO2.out, HOW.out, HG.out⟩, by simp [intOf]; omega⟩
    · obtain rfl : i = n := by omega
      have hiI : ¬ (i : Int) < (i : Int) := by omega
      go_wp2
      go_end0
      exact ⟨rfl, l, HLL.out, HM.out, OrdTo.done (by rw [HLL.out]; exact HOR.out), HOW.out, grown_alloc1 HG.out⟩
/-- One cell or none: nothing is asked. -/
theorem insSort1 (S : Value) (F : Value) (base g n c : Nat) (l0 : List C) (w : World) (ho : w.ownsRow base 66 2 (.slice (some ⟨g, 0, none⟩) n c) n (vC l0)) (hn : n ≤ 1) :
    Calls Tryz.prog 101 #[.agg #[F, S], .int .i64 0, .int .i64 (n : Int)] w (SrtP w base g n c l0) := by
  have hl0 : l0.length = n := by have := own_len ho; rw [vC_length] at this; omega
  have HL := Lib.hid hl0
  have HO := Lib.hid ho
  have hnI : ¬ (1 : Int) < (n : Int) := by omega
  clear ho hl0
  go_enter Tryz.func101, Tryz.ntmps101
  go_wp2
  go_loopw [6] (fun e6 wr => e6 = .int .i64 1 ∧ wr = w.alloc (.cells #[F, S] 106)) (fun e6 _ => 0)
  case atStart => exact ⟨by simp, rfl⟩
  case round =>
    obtain ⟨rfl, rfl⟩ := hrel
    go_wp2
    go_end0
    refine ⟨rfl, l0, HL.out, fun x => Iff.rfl, ?_, HO.out.alloc _, grown_of_alloc _ _ _⟩
    rcases (by omega : n = 0 ∨ n = 1) with rfl | rfl
    · rw [List.eq_nil_of_length_eq_zero HL.out]; exact List.Pairwise.nil
    · obtain ⟨a, ha⟩ := List.length_eq_one_iff.1 HL.out
      rw [ha]; exact List.pairwise_singleton _ _
theorem pdqSmall (D : Value) (F S : Value) (hD : D = .agg #[F, S]) (base g n c : Nat) (lim : Int) (l0 : List C) (w : World) (hn12 : n ≤ 12)
    (hi : ∀ w', Below w.heap.size w w' → Calls Tryz.prog 101 #[.agg #[F, S], .int .i64 0, .int .i64 (n : Int)] w' (SrtP w' base g n c l0)) :
    Calls Tryz.prog 139 #[D, .int .i64 0, .int .i64 (n : Int), .int .i64 lim] w (SrtP w base g n c l0) := by
  subst hD
  have HI := Lib.hid hi
  have hnI : (n : Int) ≤ 12 := by omega
  clear hi
  go_enter Tryz.func139, Tryz.ntmps139
  go_wp2
  refine wp_loop_rounds 1 ?_
  rw [rounds_succ]
  go_wp2_with fail
  refine (HI.out _ (by (repeat (first | with_reducible exact Below.refl _ _ | with_reducible assumption | with_reducible apply bel_alloc | with_reducible apply bel_drew | with_reducible apply bel_drewN | ((with_reducible refine bel_set ?_ ?_); rotate_left; (simp <;> omega)) | (with_reducible refine bel_trans ?_ (by with_reducible assumption)))))).mono ?_
  rintro e w1 ⟨rfl, l', h1, h2, h3, h4, h5⟩
  have HR : Hid (SrtP w base g n c l0 (.returned (.tuple #[])) w1) := ⟨rfl, l', h1, h2, h3, h4, grown_alloc1 h5⟩
  clear h1 h2 h3 h4 h5
  go_wp2_with fail
  (try simp only [Exit.inBlock, Exit.then])
  refine bodyPost_ret (results_none rfl _ _ _) rfl ?_
  exact HR.out
noncomputable def tiS : TypeInfo := (Tryz.prog.info? 51).get (by kernel_rfl)
noncomputable def tiC : TypeInfo := (Tryz.prog.info? 66).get (by kernel_rfl)
theorem swapK2 (n : Nat) (h2 : 2 ≤ n) : Lib.swapperK n tiC 25 = 9 := by
  have a : tiC.hasPointers = false := by kernel_rfl
  have b : tiC.bytes = 16 := by kernel_rfl
  have c : (n == 0) = false := by simp; omega
  have d : (n == 1) = false := by simp; omega
  simp [Lib.swapperK, a, b, c, d]
set_option maxRecDepth 100000 in
/-- The library's sort of a slice of one to twelve cells, with the program's test. -/
theorem sortCells (Bs base g n c : Nat) (l0 : List C) (w : World) (ho : w.ownsRow base 66 2 (.slice (some ⟨g, 0, none⟩) n c) n (vC l0)) (hB : w.cell? ⟨Bs, 0, none⟩ = some (.slice (some ⟨g, 0, none⟩) n c)) (hBg : Bs ≠ g) (hn : 1 ≤ n) (hn12 : n ≤ 12) :
    Calls Tryz.prog 131 #[.iface 51 (.slice (some ⟨g, 0, none⟩) n c), .func (.func 132) #[] #[.pointer (some ⟨Bs, 0, none⟩)]] w (SrtP w base g n c l0) := by
  have hagg : ∀ w, (isAgg 66).run Tryz.prog w = .ok true w := fun _ => by kernel_rfl
  have fin : ∀ (W : World), W = sliceWorld Tryz.prog Tryz.laysGg6_ren 51 (some ⟨g, 0, none⟩) n c w → W.ownsRow base 66 2 (.slice (some ⟨g, 0, none⟩) n c) n (vC l0) ∧ W.cell? ⟨Bs, 0, none⟩ = some (.slice (some ⟨g, 0, none⟩) n c) ∧
      ∀ w', W.grownBy w' (some g) → w.grownBy w' (some g) := by
    intro W hW
    subst hW
    unfold sliceWorld
    exact ⟨(ho.alloc _).alloc _, keep_alloc (keep_alloc hB), fun w' h => grown_alloc1 (grown_alloc1 h)⟩
  obtain ⟨h1, h2, h3⟩ := fin _ rfl
  have hpost : ∀ e w', SrtP (sliceWorld Tryz.prog Tryz.laysGg6_ren 51 (some ⟨g, 0, none⟩) n c w) base g n c l0 e w' → e = .returned (.tuple #[]) ∧ (∃ l', l'.length = n ∧ (∀ x, x ∈ l' ↔ x ∈ l0) ∧ l'.Pairwise (fun a b => befC b a = false) ∧ w'.ownsRow base 66 2 (.slice (some ⟨g, 0, none⟩) n c) n (vC l') ∧ w.grownBy w' (some g)) :=
    fun e w' ⟨he, l', a1, a2, a3, a4, a5⟩ => ⟨he, l', a1, a2, a3, a4, h3 _ a5⟩
  by_cases hn2 : 2 ≤ n
  · refine (Any.sort_Slice_of_pdq Tryz.laysGg6 51 66 tiS tiC (by kernel_rfl) (by kernel_rfl) (by kernel_rfl) (by kernel_rfl) 25 (fun _ => by kernel_rfl) (some ⟨g, 0, none⟩) n c (by omega) 100 (by rw [swapK2 n hn2]; kernel_rfl) (.func 132) #[] #[.pointer (some ⟨Bs, 0, none⟩)] w
      (fun w' => ∃ l', l'.length = n ∧ (∀ x, x ∈ l' ↔ x ∈ l0) ∧ l'.Pairwise (fun a b => befC b a = false) ∧ w'.ownsRow base 66 2 (.slice (some ⟨g, 0, none⟩) n c) n (vC l') ∧ w.grownBy w' (some g)) ?_).mono (fun e w' h => ⟨h.1, h.2⟩)
    have hbd : sliceBound Tryz.prog 66 tiC 25 (some ⟨g, 0, none⟩) n c = #[.slice (some ⟨g, 0, none⟩) n c, typeHandle Tryz.prog 66] := by
      unfold sliceBound
      rw [swapK2 n hn2]
      rfl
    rw [hbd]
    have hx : ∀ args W, (callFunc 100 args).run Tryz.prog W = ((Extern.ReflectliteSwapper.swap false args).run Tryz.prog W).andThen fun v w' => .ok (.value v) w' := fun args W => run_callFunc_extern Tryz.func100 (by kernel_rfl) (by kernel_rfl) (by kernel_rfl) (e := Extern.ReflectliteSwapper.swap false) (by kernel_rfl) args W
    refine (pdqSmall _ _ _ rfl base g n c _ l0 _ hn12 fun w' hb => ?_).mono hpost
    exact insSort _ _ Bs base g n c (fun w l i j a b c => swapCells _ false hx hagg base g n _ l i j w a b c) l0 w' (own_keep h1 hb) ((hb.cell (World.block_lt_of_cell? _ _ h2)).trans h2) hBg hn hn12
  · have hn1 : n = 1 := by omega
    subst hn1
    refine (Any.sort_Slice_of_pdq Tryz.laysGg6 51 66 tiS tiC (by kernel_rfl) (by kernel_rfl) (by kernel_rfl) (by kernel_rfl) 25 (fun _ => by kernel_rfl) (some ⟨g, 0, none⟩) 1 c (by omega) 93 (by kernel_rfl) (.func 132) #[] #[.pointer (some ⟨Bs, 0, none⟩)] w
      (fun w' => ∃ l', l'.length = 1 ∧ (∀ x, x ∈ l' ↔ x ∈ l0) ∧ l'.Pairwise (fun a b => befC b a = false) ∧ w'.ownsRow base 66 2 (.slice (some ⟨g, 0, none⟩) 1 c) 1 (vC l') ∧ w.grownBy w' (some g)) ?_).mono (fun e w' h => ⟨h.1, h.2⟩)
    refine (pdqSmall _ _ _ rfl base g 1 c _ l0 _ (by omega) fun w' hb => ?_).mono hpost
    exact insSort1 _ _ base g 1 c l0 w' (own_keep h1 hb) (Nat.le_refl _)
end Go.Proofs.YtoedmmhiinhljaaGreatDoor

/- Cells put in order, each once: the program, at one to twelve cells. -/
namespace Go.Proofs.YtoedmmhiinhljaaGreatDoor
open Go.RowKit
set_option linter.unusedVariables false
attribute [local go_sem ↓] Go.wp_at_zero Go.wp_at_succ

theorem keepG_C (l : List C) (k : Nat) : keepG l k = (k == 0 || !decide (l.getD (k - 1) default = l.getD k default)) := by
  unfold keepG
  generalize l.getD (k - 1) default = a
  generalize l.getD k default = b
  congr 1
theorem ded_fin {l xs : List C} (hp : l.Pairwise (fun a b => befC b a = false)) (hm : ∀ x, x ∈ l ↔ x ∈ xs) : dedG l l.length = sortC xs := dedG_eq befC_sto hp hm
set_option maxRecDepth 100000 in
set_option maxHeartbeats 3200000 in
theorem SortCells_i (A : Option Addr) (n c : Nat) (xs : List C) (w : World) (hr : Rd w A (vC xs)) (hl : xs.length = n) (hn : 1 ≤ n) (hn12 : n ≤ 12) :
    Calls Tryz.prog 118 #[.slice A n c] w (RetS w 66 2 (vC (sortC xs))) := by
  have HL := Lib.hid hl
  have HR := Lib.hid hr
  clear hl hr
  go_enter Tryz.func118, Tryz.ntmps118
  go_wp2_with (at_builtin; go_must (refine app_C _ rfl _ _ rfl w.heap.size none 0 0 [] rfl (own_nil _ _ _ _) _ _ _ xs rfl HR.out HL.out (by omega) (by omega) ?_); intro D c2 w1 ho1 hg1 hat1; simp only [Nat.zero_add, List.nil_append] at ho1; obtain ⟨g, hD, hbg, hgl⟩ := own_at ho1 (by omega); subst hD; have HO1 := Lib.hid ho1; have HB1 := Lib.hid (bel_app (Below.refl w.heap.size w) hg1 (fun g h => by cases h)); have HBX := Lib.hid (Blk.new w1 51 #[.slice (some ⟨g, 0, none⟩) n c2]); clear ho1 hg1 hat1)
  have hwl := HB1.out.size
  refine (sortCells w1.heap.size w.heap.size g n c2 xs _ (HO1.out.alloc _) (HBX.out.cell 0) (by omega) hn hn12).mono ?_
  rintro e w2 ⟨rfl, l, hll, hlm, hlp, ho2, hg2⟩
  have hb2 : Below w.heap.size w w2 := bel_app (A := some ⟨g, 0, none⟩) (bel_alloc HB1.out _) hg2 (fun k e => by simp only [ob, Option.map_some, Option.some.injEq] at e; omega)
  have HV : Hid (dedG l n = sortC xs) := by have := ded_fin hlp hlm; rwa [hll] at this
  have hBX := HBX.out.grown hg2 (fun e => by injection e with e; omega)
  have b0 : w2.cell? ⟨w1.heap.size, 0, none⟩ = some (.slice (some ⟨g, 0, none⟩) n c2) := by simpa using hBX.cell 0
  have bl := hBX.lt
  have HBY := Lib.hid hBX
  have HLL := Lib.hid hll
  have HRL := Lib.hid (Rd.of_own ho2)
  have hg3 := (own_lt ho2 g rfl).2
  have hsz2 := hb2.size
  clear hll hlm hlp ho2 hg2 hBX
  go_wp2_with fail
  go_loopw [15, 4] (fun e15 e4 wr => ∃ (k q cq : Nat) (D : Option Addr), k ≤ n ∧ q ≤ k ∧ e15 = .int .i64 k ∧ e4 = .slice D q cq ∧ wr.ownsRow w2.heap.size 66 2 (.slice D q cq) q (vC (dedG l k)) ∧ Below w2.heap.size w2 wr) (fun e15 _ _ => n - (intOf e15).toNat)
  case atStart => exact ⟨0, 0, 0, none, by omega, by omega, rfl, rfl, own_nil _ _ _ _, Below.refl _ _⟩
  case round =>
    obtain ⟨k, q, cq, D, hk, hq, rfl, rfl, hown, hb⟩ := hrel
    by_cases hlt : k < n
    · have hkl : k < l.length := by rw [HLL.out]; exact hlt
      have hrw := HRL.out.below hb
      obtain ⟨g', off, he, _, a1, a2⟩ := RdC.at_ hrw hkl
      simp only [Option.some.injEq, Addr.mk.injEq, and_true] at he
      obtain ⟨rfl, rfl⟩ := he
      rw [Nat.zero_add] at a1 a2
      have hgd : l.getD k default = l[k] := getD_in l hkl
      have hst : dedG l (k + 1) = dedG l k ++ (if keepG l k then [l.getD k default] else []) := rfl
      obtain ⟨x, hx⟩ : ∃ x, l[k].1 = x := ⟨_, rfl⟩
      obtain ⟨y, hy⟩ : ∃ y, l[k].2 = y := ⟨_, rfl⟩
      have hxy : l[k] = (x, y) := Prod.ext hx hy
      rw [hx] at a1
      rw [hy] at a2
      rw [hxy] at hgd
      rw [hgd] at hst
      have HO := Lib.hid hown
      have hbs := hb.size
      have KEEP : Hid (keepG l k = true → dedG l (k + 1) = dedG l k ++ [(x, y)]) := fun h => by rw [hst, h]; rfl
      have SKIP : Hid (keepG l k = false → dedG l (k + 1) = dedG l k) := fun h => by rw [hst, h]; simp
      have hka : keepG l k = (k == 0 || !decide (l.getD (k - 1) default = (x, y))) := by rw [keepG_C, hgd]
      have HKA := Lib.hid hka
      have hglw : g < wr.heap.size := Nat.lt_of_lt_of_le hg3 hb.size
      have hB := HBY.out.below hb
      have d0 : wr.cell? ⟨w1.heap.size, 0, none⟩ = some (.slice (some ⟨g, 0, none⟩) n c2) := by simpa using hB.cell 0
      have dl := hB.lt
      have hk1 : (0 : Int) ≤ (k : Int) := by omega
      have hk2 : (k : Int) < (n : Int) := by omega
      clear hx hy hxy hst hgd hka hown hB b0 bl
      by_cases hk0 : k = 0
      · have e0 : ((k : Int) == 0) = true := by simp [hk0]
        have HN := Lib.hid (KEEP.out (by rw [HKA.out, hk0]; rfl))
        clear KEEP SKIP HKA hk0
        go_wp2_with fail
        (refine wp_region_below (by kernel_rfl) (by kernel_rfl) ?_; (repeat (first | go_big_quiet_skip | (refine quietV (v := ?_) (by rfl) rfl (fun w' hbw => ?_) ?_; rotate_left; ((try dsimp only at hbw); have hbc := (bcell hbw).1; have hbf := (bcell hbw).2; go_simp; first | done | with_reducible rfl | fail); simp only [List.setIfInBounds_toArray, List.set_cons_zero, List.set_cons_succ]))); refine wpQuiet_nil ?_; intro wq hbq)
        have hbz := hbq.size
        simp only [World.size_alloc] at hbz
        have hCB := (Blk.new wr 66 #[.int .i64 x, .int .i64 y]).below hbq
        have z0 : wq.cell? ⟨wr.heap.size, 0, none⟩ = some (.int .i64 x) := by simpa using hCB.cell 0
        have z1 : wq.cell? ⟨wr.heap.size, 1, none⟩ = some (.int .i64 y) := by simpa using hCB.cell 1
        have zl := hCB.lt
        clear hCB
        go_wp2_with (at_builtin; go_must (refine app_C _ rfl _ _ rfl w2.heap.size _ _ _ _ rfl (own_keep (own_keep (HO.out.alloc _) hbq) (bel_alloc (Below.refl _ _) _)) _ _ _ [(x, y)] rfl (rd_newC _ _ _ _) rfl (by omega) (by simp; omega) ?_); intro D2 cp2 w8 ho8 hg8 hat8; have HO8 := Lib.hid ho8; have HG8 := Lib.hid hg8; clear ho8 hg8 hat8)
        exact ⟨⟨k + 1, q + 1, cp2, D2, by omega, by omega, by go_num, rfl, by rw [HN.out]; exact HO8.out, bel_app (bel_alloc (bel_trans (bel_alloc hb _) hbq) _) HG8.out (fun g' hg1 => ((own_lt HO.out) g' hg1).1)⟩, by simp [intOf]; omega⟩
      · obtain ⟨j, hjk⟩ : ∃ j, k = j + 1 := ⟨k - 1, by omega⟩
        have hjl : j < l.length := by omega
        obtain ⟨g', off', he, _, c1, c3⟩ := RdC.at_ hrw hjl
        simp only [Option.some.injEq, Addr.mk.injEq, and_true] at he
        obtain ⟨rfl, rfl⟩ := he
        rw [Nat.zero_add] at c1 c3
        obtain ⟨p, hp⟩ : ∃ p, l[j].1 = p := ⟨_, rfl⟩
        obtain ⟨r, hr⟩ : ∃ r, l[j].2 = r := ⟨_, rfl⟩
        have hgj : l.getD (k - 1) default = (p, r) := by rw [hjk, Nat.add_sub_cancel, getD_in l hjl]; exact Prod.ext hp hr
        rw [hp] at c1
        rw [hr] at c3
        have e0 : ((k : Int) == 0) = false := by simp; omega
        have hj1 : (k : Int) - 1 = (j : Int) := by omega
        have hj0 : (0 : Int) ≤ (j : Int) := by omega
        have hjw : IntKind.i64.wrap (j : Int) = (j : Int) := Go.IntWalk.i64_in _ (by omega)
        have hjm : (j : Int) < (n : Int) := by omega
        have hkk : (k == 0) = false := by simpa using hk0
        have hkz : ¬ k = 0 := hk0
        have HKK := Lib.hid hkk
        have HGJ := Lib.hid hgj
        clear hp hr hgj hjk hkk hk0
        by_cases hsame : p = x ∧ r = y
        · obtain ⟨rfl, rfl⟩ := hsame
          have HN := Lib.hid (SKIP.out (by rw [HKA.out, HKK.out, HGJ.out]; simp))
          have hne : (p == p && r == r) = true := by simp
          clear KEEP SKIP HKA
          go_wp2_with fail
          (refine wp_region_below (by kernel_rfl) (by kernel_rfl) ?_; (repeat (first | go_big_quiet_skip | (refine quietV (v := ?_) (by rfl) rfl (fun w' hbw => ?_) ?_; rotate_left; ((try dsimp only at hbw); have hbc := (bcell hbw).1; have hbf := (bcell hbw).2; go_simp; first | done | with_reducible rfl | fail); simp only [List.setIfInBounds_toArray, List.set_cons_zero, List.set_cons_succ]))); refine wpQuiet_nil ?_; intro wq hbq)
          go_wp2_with fail
          exact ⟨⟨k + 1, q, cq, D, by omega, by omega, by go_num, rfl, by rw [HN.out]; exact own_keep (HO.out.alloc _) hbq, bel_trans (bel_alloc hb _) hbq⟩, by simp [intOf]; omega⟩
        · have hne : (p == x && r == y) = false := by
            rw [Bool.and_eq_false_iff, beq_eq_false_iff_ne, beq_eq_false_iff_ne]
            by_cases h1 : p = x
            · exact .inr fun h2 => hsame ⟨h1, h2⟩
            · exact .inl h1
          have HN := Lib.hid (KEEP.out (by
            rw [HKA.out, HKK.out, HGJ.out, Bool.false_or, decide_eq_false (fun e => hsame (by injection e with e1 e2; exact ⟨e1, e2⟩))]
            rfl))
          clear KEEP SKIP HKA hsame
          go_wp2_with fail
          (refine wp_region_below (by kernel_rfl) (by kernel_rfl) ?_; (repeat (first | go_big_quiet_skip | (refine quietV (v := ?_) (by rfl) rfl (fun w' hbw => ?_) ?_; rotate_left; ((try dsimp only at hbw); have hbc := (bcell hbw).1; have hbf := (bcell hbw).2; go_simp; first | done | with_reducible rfl | fail); simp only [List.setIfInBounds_toArray, List.set_cons_zero, List.set_cons_succ]))); refine wpQuiet_nil ?_; intro wq hbq)
          have hbz := hbq.size
          simp only [World.size_alloc] at hbz
          have hCB := (Blk.new wr 66 #[.int .i64 x, .int .i64 y]).below hbq
          have z0 : wq.cell? ⟨wr.heap.size, 0, none⟩ = some (.int .i64 x) := by simpa using hCB.cell 0
          have z1 : wq.cell? ⟨wr.heap.size, 1, none⟩ = some (.int .i64 y) := by simpa using hCB.cell 1
          have zl := hCB.lt
          clear hCB
          go_wp2_with (at_builtin; go_must (refine app_C _ rfl _ _ rfl w2.heap.size _ _ _ _ rfl (own_keep (own_keep (HO.out.alloc _) hbq) (bel_alloc (Below.refl _ _) _)) _ _ _ [(x, y)] rfl (rd_newC _ _ _ _) rfl (by omega) (by simp; omega) ?_); intro D2 cp2 w8 ho8 hg8 hat8; have HO8 := Lib.hid ho8; have HG8 := Lib.hid hg8; clear ho8 hg8 hat8)
          exact ⟨⟨k + 1, q + 1, cp2, D2, by omega, by omega, by go_num, rfl, by rw [HN.out]; exact HO8.out, bel_app (bel_alloc (bel_trans (bel_alloc hb _) hbq) _) HG8.out (fun g' hg1 => ((own_lt HO.out) g' hg1).1)⟩, by simp [intOf]; omega⟩
    · obtain rfl : k = n := by omega
      rw [HV.out] at hown
      have HO := Lib.hid (own_base hown hsz2)
      have hk1 : ¬ (k : Int) < (k : Int) := by omega
      clear hown
      go_wp2
      go_ret
      exact ⟨_, _, _, rfl, HO.out, bel_trans hb2 hb⟩
end Go.Proofs.YtoedmmhiinhljaaGreatDoor
