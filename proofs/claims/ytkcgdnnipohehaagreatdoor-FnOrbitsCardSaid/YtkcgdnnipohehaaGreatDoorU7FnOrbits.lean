/- Texts of this claim, one behind the other: part 7. -/
import Derived.Test.YtkcgdnnipohehaaGreatDoorU6FnOrbits
import Derived.Outline
import Derived.WalkLawsBesides
import Derived.WalkSpells
import Derived.BigQuiet
import Derived.Deep.QuietTactic
import Derived.Deep.RegionHeld3
import Derived.Deep.RegionWith
import Derived.Deep.DeepCutAuto
import Derived.Deep.CutBlock
import Derived.Deep.DrawnRows
import Derived.Shelf.Small.Bits
import Derived.Shelf.Strconv.Itoa0
import Derived.Shelf.Strings.Search1
import Derived.Shelf.Strings.Search2
import Derived.Shelf.Strings.Search3
import Derived.Shelf.Strings.Count
import Derived.Shelf.LaysM
import Derived.Shelf.Strings.Shaped
import Derived.Shelf.Sort.Plain
import Derived.Ground.GgsProg
import Derived.Shelf.GgSortFunc.Insertion
import Derived.Shelf.GgSortFunc.Small
import Derived.Shelf.GgSortFunc.InsertionK
import Derived.Shelf.GgSortFunc.SmallK
import Derived.Shelf.GgSortFunc.Tiny
import Derived.Shelf.GgSortFunc.Compose
import Derived.Shelf.GgSortFunc.LotD
import Derived.Shelf.GgSortFunc.Pivot
import Derived.Shelf.GgSortFunc.Partition
import Derived.Shelf.GgSortFunc.Pdq
import Derived.Shelf.GgSortFunc.Whole
import Derived.Ground.GgtProg
import Derived.Shelf.GgSortMore.Stable
import Derived.Shelf.Bits.Mul64
import Derived.Shelf.Unicode.DecodeSlow
import Derived.Shelf.Slices.In.SortNone
import Derived.Shelf.Slices.In.SortNone2
import Derived.Shelf.SlSortFunc.Xorshift
import Derived.Shelf.SlSortFuncK.ComposeK
import Derived.Shelf.SlSortFuncK.SiftDownK
import Derived.Shelf.SlSortFuncK.HeapSortK
import Derived.Shelf.SlSortFuncK.PartialInsertionK
import Derived.Shelf.SlSortFuncK.LotDK
import Derived.Shelf.SlSortFuncK.PivotK
import Derived.Shelf.SlSortFuncK.PartitionK
import Derived.Shelf.SlSortFunc.SiftDown
import Derived.Shelf.SlSortFunc.HeapSort
import Derived.Shelf.SlSortFunc.PartialInsertion
import Derived.Shelf.SlSortFuncK.PdqK
import Derived.Shelf.SlSortFuncK.WholeK
import Derived.Test.YtkcgdnnipohehaaGreatDoorProg
import Derived.Laws.EntriesVeiled
import Derived.Lib.ReflectliteSwap
import Derived.Sort.OwnSortedInts
namespace Go.Proofs.YtkcgdnnipohehaaGreatDoor
open Go.RowKit
set_option linter.unusedVariables false
set_option maxRecDepth 100000
set_option maxHeartbeats 6400000
section
open Go.RowKit Go.Shelf
attribute [local go_sem ↓] Go.wp_at_zero Go.wp_at_succ
theorem insT (sf : Nat) (th : Value) (base g n c B : Nat) (hsw : SwT sf th base g n c B) (a b : Nat) (d0 : Nat → Int) (w : World) (h : SS w base g n c B d0) (ha : a ≤ b) (hb : b ≤ n) (hn : n ≤ 1099511627776) :
  Calls Tryz.prog 170 #[.agg #[.func (.func 63) #[] #[.pointer (some ⟨B, 0, none⟩)], .func (.func sf) #[] #[.slice (some ⟨g, 0, none⟩) n c, th]], .int .i64 (a : Int), .int .i64 (b : Int)] w (StP w base g n c B fun d' => StM.Stb keyT a b d0 d' ∧ StM.Srt keyT a b d') := by
 have hgl := h.lt.2
 have HS := Lib.hid h
 have HSW := Lib.hid hsw
 have HBB := Lib.hid (Blk.new w 120 #[.func (.func 63) #[] #[.pointer (some ⟨B, 0, none⟩)], .func (.func sf) #[] #[.slice (some ⟨g, 0, none⟩) n c, th]])
 clear hsw h
 go_enter Tryz.func170, Tryz.ntmps170
 go_wp2
 go_loopw [6] (fun e6 wr => ∃ (i : Nat) (d : Nat → Int), a + 1 ≤ i ∧ (i ≤ b ∨ i = a + 1) ∧ e6 = .int .i64 i ∧ StM.Stb keyT a b d0 d ∧ StM.Srt keyT a i d ∧ SS wr base g n c B d ∧ (w.alloc (.cells #[.func (.func 63) #[] #[.pointer (some ⟨B, 0, none⟩)], .func (.func sf) #[] #[.slice (some ⟨g, 0, none⟩) n c, th]] 120)).grownBy wr (some g)) (fun e6 _ => b - (intOf e6).toNat)
 case atStart => exact ⟨a + 1, d0, Nat.le_refl _, .inr rfl, by go_num, StM.Stb.refl _ _ _, StM.Srt.one _ _ _ (Nat.le_refl _), HS.out.keep (by (repeat (first | with_reducible exact Below.refl _ _ | with_reducible assumption | with_reducible apply bel_alloc | with_reducible apply bel_drew | with_reducible apply bel_drewN | ((with_reducible refine bel_set ?_ ?_); rotate_left; (simp <;> omega)) | (with_reducible refine bel_trans ?_ (by with_reducible assumption))))), World.grownBy.refl _ _⟩
 case round =>
  obtain ⟨i, d, hi1, hin, rfl, hst, hord, hown, hg⟩ := hrel
  have HST := Lib.hid hst
  have HOR := Lib.hid hord
  have HOW := Lib.hid hown
  have HG := Lib.hid hg
  clear hst hord hown hg
  by_cases hlt : i < b
  ·have hiI : (i : Int) < (b : Int) := by omega
   clear hin
   go_wp2
   go_loopw [7] (fun e7 wr => ∃ (j : Nat) (d : Nat → Int), a ≤ j ∧ j ≤ i ∧ e7 = .int .i64 j ∧ StM.Stb keyT a b d0 d ∧ StM.Nr keyT a i j d ∧ SS wr base g n c B d ∧ (w.alloc (.cells #[.func (.func 63) #[] #[.pointer (some ⟨B, 0, none⟩)], .func (.func sf) #[] #[.slice (some ⟨g, 0, none⟩) n c, th]] 120)).grownBy wr (some g)) (fun e7 _ => (intOf e7).toNat)
   case atStart => exact ⟨i, d, by omega, Nat.le_refl _, rfl, HST.out, StM.Nr.start HOR.out, HOW.out, HG.out⟩
   case round =>
    clear HST HOR HOW HG
    obtain ⟨j, d, haj, hji, rfl, hst, hnear, hown, hg⟩ := hrel
    have HST := Lib.hid hst
    have HN := Lib.hid hnear
    have HOW := Lib.hid hown
    have HG := Lib.hid hg
    clear hst hnear hown hg
    by_cases hj0 : a < j
    ·obtain ⟨p, hp⟩ : ∃ p, j = p + 1 := ⟨j - 1, by omega⟩
     have hjI : (j : Int) > (a : Int) := by omega
     have hpI : (j : Int) - 1 = (p : Int) := by omega
     have hpw : IntKind.i64.wrap (p : Int) = (p : Int) := Go.IntWalk.i64_in _ (by omega)
     have HP := Lib.hid hp
     have hBB := HBB.out.grown HG.out (fun e => by injection e with e; omega)
     have b0 : wr.cell? ⟨w.heap.size, 0, none⟩ = some (.func (.func 63) #[] #[.pointer (some ⟨B, 0, none⟩)]) := by simpa using hBB.cell 0
     have b1 : wr.cell? ⟨w.heap.size, 1, none⟩ = some (.func (.func sf) #[] #[.slice (some ⟨g, 0, none⟩) n c, th]) := by simpa using hBB.cell 1
     have bl := hBB.lt
     have HBW := Lib.hid hBB
     have hjn : j < n := by omega
     have hpn : p < n := by omega
     have hap : a ≤ p := by omega
     clear hBB hp
     by_cases hbf : keyT (d j) < keyT (d p)
     ·have HBF := Lib.hid hbf
      clear hbf
      go_wp2_with fail
      refine (lessT HOW.out hjn hpn true (by rw [decide_eq_true HBF.out])).mono ?_
      rintro e w1 ⟨rfl, hb1⟩
      have hBB1 := HBW.out.below hb1
      have c1 : w1.cell? ⟨w.heap.size, 1, none⟩ = some (.func (.func sf) #[] #[.slice (some ⟨g, 0, none⟩) n c, th]) := by simpa using hBB1.cell 1
      have cl := hBB1.lt
      obtain ⟨w2, hrun, ho2, hg2⟩ := HSW.out w1 d j p (HOW.out.keep hb1) hjn hpn
      have HO2 := Lib.hid ho2
      have HG2 := Lib.hid (hg2 _ (grown_below HG.out hb1))
      have HN2 : Hid (StM.Nr keyT a i p (StM.sw2 d j p)) := HN.out.step HP.out hap hji HBF.out
      have HS2 : Hid (StM.Stb keyT a b d0 (StM.sw2 d j p)) := HST.out.trans (StM.nb2 HP.out HBF.out hap (by omega))
      clear hBB1 ho2 hg2 b0 b1 bl
      go_wp2_with fail
      exact ⟨⟨p, StM.sw2 d j p, by omega, by omega, rfl, HS2.out, HN2.out, HO2.out, HG2.out⟩, by simp [intOf]; omega⟩
     ·have HBF := Lib.hid hbf
      clear hbf
      go_wp2_with fail
      refine (lessT HOW.out hjn hpn false (by rw [decide_eq_false HBF.out])).mono ?_
      rintro e w1 ⟨rfl, hb1⟩
      have HO2 : Hid (StM.Srt keyT a (i + 1) d) := HN.out.stop haj hji (.inr ⟨p, HP.out, Nat.le_of_not_lt HBF.out⟩)
      go_wp2_with fail
      exact ⟨⟨i + 1, d, by omega, .inl (by omega), by go_num, HST.out, HO2.out, HOW.out.keep hb1, grown_below HG.out hb1⟩, by simp [intOf]; omega⟩
    ·have hja : ¬ (j : Int) > (a : Int) := by omega
     have HO2 : Hid (StM.Srt keyT a (i + 1) d) := HN.out.stop haj hji (.inl (by omega))
     clear hj0
     go_wp2_with fail
     exact ⟨⟨i + 1, d, by omega, .inl (by omega), by go_num, HST.out, HO2.out, HOW.out, HG.out⟩, by simp [intOf]; omega⟩
  ·have hiI : ¬ (i : Int) < (b : Int) := by omega
   clear hin
   go_wp2
   go_end0
   exact ⟨rfl, d, HOW.out, grown_allocT HG.out, HST.out, HOR.out.sub (Nat.le_refl _) (by omega)⟩
end

section
open Go.RowKit Go.Shelf
attribute [local go_sem ↓] Go.wp_at_zero Go.wp_at_succ
theorem stabT (sf : Nat) (th : Value) (base g n c B : Nat) (hsw : SwT sf th base g n c B) (hn : n ≤ 1099511627776) (d0 : Nat → Int) (w : World) (h : SS w base g n c B d0) :
  Calls Tryz.prog 121 #[.agg #[.func (.func 63) #[] #[.pointer (some ⟨B, 0, none⟩)], .func (.func sf) #[] #[.slice (some ⟨g, 0, none⟩) n c, th]], .int .i64 (n : Int)] w (StP w base g n c B fun d' => StM.Stb keyT 0 n d0 d' ∧ StM.Srt keyT 0 n d') := by
 have hgl := h.lt.2
 have HS := Lib.hid (h.keep (bel_alloc (Below.refl _ _) (.cells #[.func (.func 63) #[] #[.pointer (some ⟨B, 0, none⟩)], .func (.func sf) #[] #[.slice (some ⟨g, 0, none⟩) n c, th]] 120)))
 have HSW := Lib.hid hsw
 have HBB := Lib.hid (Blk.new w 120 #[.func (.func 63) #[] #[.pointer (some ⟨B, 0, none⟩)], .func (.func sf) #[] #[.slice (some ⟨g, 0, none⟩) n c, th]])
 obtain ⟨W0, hW0⟩ : ∃ W0, (w.alloc (.cells #[.func (.func 63) #[] #[.pointer (some ⟨B, 0, none⟩)], .func (.func sf) #[] #[.slice (some ⟨g, 0, none⟩) n c, th]] 120)) = W0 := ⟨_, rfl⟩
 rw [hW0] at HS HBB
 have hw0 : w.grownBy W0 (some g) := by rw [← hW0]; exact grown_allocT (World.grownBy.refl _ _)
 have HW0 := Lib.hid hW0
 have HG0 := Lib.hid hw0
 have hneg : some w.heap.size ≠ some g := fun e => by injection e with e; omega
 clear hsw h hW0 hw0
 go_enter Tryz.func121, Tryz.ntmps121
 go_wp2_with fail
 rw [HW0.out]
 go_loopw [5, 6] (fun e5 e6 wr => ∃ (a : Nat) (d : Nat → Int), a ≤ n ∧ 20 ∣ a ∧ e5 = .int .i64 a ∧ e6 = .int .i64 ((a + 20 : Nat) : Int) ∧ StM.Stb keyT 0 n d0 d ∧ StM.Bs keyT 20 n a d ∧ SS wr base g n c B d ∧ W0.grownBy wr (some g)) (fun e5 _ _ => n - (intOf e5).toNat)
 case atStart => exact ⟨0, d0, Nat.zero_le _, Nat.dvd_zero _, rfl, rfl, StM.Stb.refl _ _ _, StM.Bs.zero _ _ _, HS.out, World.grownBy.refl _ _⟩
 case round =>
  obtain ⟨a, d, han, hda, rfl, rfl, hst, hbs, hown, hg⟩ := hrel
  have HDA := Lib.hid hda
  have HST := Lib.hid hst
  have HBS := Lib.hid hbs
  have HOW := Lib.hid hown
  have HG := Lib.hid hg
  clear hda hst hbs hown hg
  obtain ⟨b, hb⟩ : ∃ b, a + 20 = b := ⟨_, rfl⟩
  rw [hb]
  have HB := Lib.hid hb
  have hab : a ≤ b := by omega
  have hbn : b ≤ 2199023255552 := by omega
  have hBB := HBB.out.grown HG.out hneg
  have b0 : wr.cell? ⟨w.heap.size, 0, none⟩ = some (.func (.func 63) #[] #[.pointer (some ⟨B, 0, none⟩)]) := by simpa using hBB.cell 0
  have b1 : wr.cell? ⟨w.heap.size, 1, none⟩ = some (.func (.func sf) #[] #[.slice (some ⟨g, 0, none⟩) n c, th]) := by simpa using hBB.cell 1
  have bl := hBB.lt
  clear hBB hb
  by_cases hlt : b ≤ n
  ·have hltI : (b : Int) ≤ (n : Int) := by omega
   go_wp2_with fail
   refine (insT sf th base g n c B HSW.out a b d _ HOW.out hab hlt hn).mono ?_
   rintro e w1 ⟨rfl, d1, hS1, hg1, t1, t2⟩
   have HST1 : Hid (StM.Stb keyT 0 n d0 d1) := HST.out.wide t1 hab hlt
   have HBS1 : Hid (StM.Bs keyT 20 n b d1) := HBS.out.step (by decide) HDA.out (by have := HB.out; omega) (by have := HB.out; omega) t1 t2
   have HS1 := Lib.hid hS1
   have HG1 := Lib.hid (HG.out.trans hg1)
   have HDB : Hid (20 ∣ b) := by show 20 ∣ b; rw [← HB.out]; exact Nat.dvd_add HDA.out (Nat.dvd_refl _)
   clear hS1 hg1 t1 t2
   go_wp2_with fail
   exact ⟨⟨b, d1, hlt, HDB.out, rfl, by go_num, HST1.out, HBS1.out, HS1.out, HG1.out⟩, by have := HB.out; simp [intOf]; omega⟩
  ·have hltI : ¬ (b : Int) ≤ (n : Int) := by omega
   go_wp2_with fail
   refine (insT sf th base g n c B HSW.out a n d _ HOW.out han (Nat.le_refl _) hn).mono ?_
   rintro e w1 ⟨rfl, d1, hS1, hg1, t1, t2⟩
   have HST1 : Hid (StM.Stb keyT 0 n d0 d1) := HST.out.wide t1 han (Nat.le_refl _)
   have HBS1 : Hid (StM.Bs keyT 20 n n d1) := HBS.out.step (by decide) HDA.out (by have := HB.out; omega) (by have := HB.out; omega) t1 t2
   have HS1 := Lib.hid hS1
   have HG1 := Lib.hid (HG.out.trans hg1)
   clear hS1 hg1 t1 t2 HST HBS HOW HG b0 b1 bl
   go_wp2_with fail
   go_loopw [4] (fun e4 wq => ∃ (s : Nat) (d : Nat → Int), 20 ≤ s ∧ s ≤ 2199023255552 ∧ e4 = .int .i64 s ∧ StM.Stb keyT 0 n d0 d ∧ StM.Bs keyT s n n d ∧ SS wq base g n c B d ∧ W0.grownBy wq (some g)) (fun e4 _ => n - (intOf e4).toNat)
   case atStart => exact ⟨20, d1, Nat.le_refl _, by omega, rfl, HST1.out, HBS1.out, HS1.out, HG1.out⟩
   case round =>
    clear HST1 HBS1 HS1 HG1 hltI hlt HB HDA hab hbn han
    obtain ⟨s, d2, hs20, hsm, rfl, hst, hbs, hown, hg⟩ := hrel
    have HST := Lib.hid hst
    have HBS := Lib.hid hbs
    have HOW := Lib.hid hown
    have HG := Lib.hid hg
    clear hst hbs hown hg
    by_cases hsn : s < n
    ·have hsnI : (s : Int) < (n : Int) := by omega
     obtain ⟨s2, hs2⟩ : ∃ s2, 2 * s = s2 := ⟨_, rfl⟩
     have hs2I : 2 * (s : Int) = (s2 : Int) := by omega
     have hs2J : (s : Int) * 2 = (s2 : Int) := by omega
     have hs2w : IntKind.i64.wrap (s2 : Int) = (s2 : Int) := Go.IntWalk.i64_in _ (by omega)
     have HS2 := Lib.hid hs2
     have hs2m : s2 ≤ 2199023255552 := by omega
     clear hs2
     go_wp2_with fail
     go_loopw [5, 6] (fun e5 e6 wq => ∃ (a : Nat) (d : Nat → Int), a ≤ n ∧ s2 ∣ a ∧ e5 = .int .i64 a ∧ e6 = .int .i64 ((a + s2 : Nat) : Int) ∧ StM.Stb keyT 0 n d0 d ∧ StM.Bs keyT s2 n a d ∧ StM.Rs keyT s n a d ∧ SS wq base g n c B d ∧ W0.grownBy wq (some g)) (fun e5 _ _ => n - (intOf e5).toNat)
     case atStart => exact ⟨0, d2, Nat.zero_le _, Nat.dvd_zero _, rfl, by rw [Nat.zero_add], HST.out, StM.Bs.zero _ _ _, StM.Rs.of HBS.out, HOW.out, HG.out⟩
     case round =>
      clear HST HBS HOW HG
      obtain ⟨a, d, han, hda, rfl, rfl, hst, hbs, hrs, hown, hg⟩ := hrel
      have hda2 : 2 * s ∣ a := by rw [HS2.out]; exact hda
      have HDA := Lib.hid hda
      have HDA2 := Lib.hid hda2
      have HST := Lib.hid hst
      have HBS := Lib.hid hbs
      have HRS := Lib.hid hrs
      have HOW := Lib.hid hown
      have HG := Lib.hid hg
      clear hda hda2 hst hbs hrs hown hg
      obtain ⟨b, hb⟩ : ∃ b, a + s2 = b := ⟨_, rfl⟩
      obtain ⟨m, hm⟩ : ∃ m, a + s = m := ⟨_, rfl⟩
      rw [hb]
      have HB := Lib.hid hb
      have HM := Lib.hid hm
      have hs2e := HS2.out
      have hmI : (a : Int) + (s : Int) = (m : Int) := by omega
      have hmw : IntKind.i64.wrap (m : Int) = (m : Int) := Go.IntWalk.i64_in _ (by omega)
      have ham : a < m := by omega
      have hmb : m < b := by omega
      have hbn : b ≤ 4398046511104 := by omega
      have hBB := HBB.out.grown HG.out hneg
      have b0 : wr.cell? ⟨w.heap.size, 0, none⟩ = some (.func (.func 63) #[] #[.pointer (some ⟨B, 0, none⟩)]) := by simpa using hBB.cell 0
      have b1 : wr.cell? ⟨w.heap.size, 1, none⟩ = some (.func (.func sf) #[] #[.slice (some ⟨g, 0, none⟩) n c, th]) := by simpa using hBB.cell 1
      have bl := hBB.lt
      clear hBB hb hm hs2e
      by_cases hlt : b ≤ n
      ·have hltI : (b : Int) ≤ (n : Int) := by omega
       have L1 : Hid (StM.Srt keyT a m d) := by show StM.Srt _ _ _ _; rw [← HM.out]; exact HRS.out.left HDA2.out (by rw [HM.out]; omega) (by omega)
       have L2 : Hid (StM.Srt keyT m b d) := by show StM.Srt _ _ _ _; have h := HRS.out.right (b := b) HDA2.out (by rw [HM.out]; omega) (by have := HB.out; have := HS2.out; omega); rw [HM.out] at h; exact h
       go_wp2_with fail
       refine (symT sf th base g n c B HSW.out hn (b - a) a m b d _ (Nat.le_refl _) HOW.out ham hmb hlt L1.out L2.out).mono ?_
       rintro e w1 ⟨rfl, d3, hS1, hg1, t1, t2⟩
       have HST1 : Hid (StM.Stb keyT 0 n d0 d3) := HST.out.wide t1 (by omega) hlt
       have HBS1 : Hid (StM.Bs keyT s2 n b d3) := HBS.out.step (by omega) HDA.out (by have := HB.out; omega) (by have := HB.out; omega) t1 t2
       have HRS1 : Hid (StM.Rs keyT s n b d3) := HRS.out.step t1 (Nat.le_refl _) (by omega)
       have HS1 := Lib.hid hS1
       have HG1 := Lib.hid (HG.out.trans hg1)
       have HDB : Hid (s2 ∣ b) := by show s2 ∣ b; rw [← HB.out]; exact Nat.dvd_add HDA.out (Nat.dvd_refl _)
       clear hS1 hg1 t1 t2
       go_wp2_with fail
       exact ⟨⟨b, d3, hlt, HDB.out, rfl, by go_num, HST1.out, HBS1.out, HRS1.out, HS1.out, HG1.out⟩, by have := HB.out; simp [intOf]; omega⟩
      ·have hltI : ¬ (b : Int) ≤ (n : Int) := by omega
       by_cases hmn : m < n
       ·have hmnI : (m : Int) < (n : Int) := by omega
        have L1 : Hid (StM.Srt keyT a m d) := by show StM.Srt _ _ _ _; rw [← HM.out]; exact HRS.out.left HDA2.out (by rw [HM.out]; omega) (by omega)
        have L2 : Hid (StM.Srt keyT m n d) := by show StM.Srt _ _ _ _; have h := HRS.out.right (b := n) HDA2.out (by rw [HM.out]; omega) (by have := HB.out; have := HS2.out; omega); rw [HM.out] at h; exact h
        go_wp2_with fail
        refine (symT sf th base g n c B HSW.out hn (n - a) a m n d _ (Nat.le_refl _) HOW.out ham hmn (Nat.le_refl _) L1.out L2.out).mono ?_
        rintro e w1 ⟨rfl, d3, hS1, hg1, t1, t2⟩
        have HST1 : Hid (StM.Stb keyT 0 n d0 d3) := HST.out.wide t1 (by omega) (Nat.le_refl _)
        have HBS1 : Hid (StM.Bs keyT s2 n n d3) := HBS.out.step (by omega) HDA.out (by have := HB.out; omega) (by have := HB.out; omega) t1 t2
        have HS1 := Lib.hid hS1
        have HG1 := Lib.hid (HG.out.trans hg1)
        clear hS1 hg1 t1 t2
        go_wp2_with fail
        exact ⟨⟨s2, d3, by have := HS2.out; omega, hs2m, rfl, HST1.out, HBS1.out, HS1.out, HG1.out⟩, by have := HS2.out; simp [intOf]; omega⟩
       ·have hmnI : ¬ (m : Int) < (n : Int) := by omega
        have HBS1 : Hid (StM.Bs keyT s2 n n d) := by
         show StM.Bs _ _ _ _ _
         have h := HBS.out
         rw [← HS2.out] at h ⊢
         exact h.last (by omega) HDA2.out (by rw [HM.out]; omega) (fun hl => HRS.out.alone HDA2.out (by rw [HM.out]; omega) hl)
        go_wp2_with fail
        exact ⟨⟨s2, d, by have := HS2.out; omega, hs2m, rfl, HST.out, HBS1.out, HOW.out, HG.out⟩, by have := HS2.out; simp [intOf]; omega⟩
    ·have hsnI : ¬ (s : Int) < (n : Int) := by omega
     have HFN : Hid (StM.Srt keyT 0 n d2) := HBS.out.all (by omega)
     go_wp2_with fail
     go_end0
     exact ⟨rfl, d2, HOW.out, HG0.out.trans HG.out, HST.out, HFN.out⟩
end

end Go.Proofs.YtkcgdnnipohehaaGreatDoor
section
namespace Go.Proofs
open Go.Shelf
def Tryz.lays191_ren : Go.Shelf.Ren := ⟨fun | 191 => 178 | 189 => 193 | 125 => 195 | 257 => 208 | 128 => 209 | 129 => 210 | 294 => 227 | 295 => 228 | 296 => 229 | 297 => 230 | 298 => 231 | 299 => 232 | 216 => 233 | 300 => 234 | 301 => 235 | 328 => 248 | 329 => 249 | 330 => 250 | 331 => 251 | 332 => 252 | 215 => 253 | 343 => 257 | n => n, fun | 28 => 24 | 0 => 0 | 3 => 3 | 46 => 105 | 51 => 148 | 53 => 150 | 4 => 4 | 183 => 201 | 182 => 200 | 131 => 44 | 5 => 5 | 9 => 9 | 218 => 214 | 222 => 210 | 228 => 224 | 229 => 159 | n => n, fun | n => n⟩
theorem Tryz.lays191 : Go.Proofs.Lays.n191 Tryz.prog Tryz.lays191_ren := {
 mixed := by kernel_rfl
 f125 := Tryz.func195.trans (congrArg some (by kernel_rfl))
 f128 := Tryz.func209.trans (congrArg some (by kernel_rfl))
 f129 := Tryz.func210.trans (congrArg some (by kernel_rfl))
 f189 := Tryz.func193.trans (congrArg some (by kernel_rfl))
 f191 := Tryz.func178.trans (congrArg some (by kernel_rfl))
 f215 := Tryz.func253.trans (congrArg some (by kernel_rfl))
 f216 := Tryz.func233.trans (congrArg some (by kernel_rfl))
 f257 := Tryz.func208.trans (congrArg some (by kernel_rfl))
 f294 := Tryz.func227.trans (congrArg some (by kernel_rfl))
 f295 := Tryz.func228.trans (congrArg some (by kernel_rfl))
 f296 := Tryz.func229.trans (congrArg some (by kernel_rfl))
 f297 := Tryz.func230.trans (congrArg some (by kernel_rfl))
 f298 := Tryz.func231.trans (congrArg some (by kernel_rfl))
 f299 := Tryz.func232.trans (congrArg some (by kernel_rfl))
 f300 := Tryz.func234.trans (congrArg some (by kernel_rfl))
 f301 := Tryz.func235.trans (congrArg some (by kernel_rfl))
 f328 := Tryz.func248.trans (congrArg some (by kernel_rfl))
 f329 := Tryz.func249.trans (congrArg some (by kernel_rfl))
 f330 := Tryz.func250.trans (congrArg some (by kernel_rfl))
 f331 := Tryz.func251.trans (congrArg some (by kernel_rfl))
 f332 := Tryz.func252.trans (congrArg some (by kernel_rfl))
 f343 := Tryz.func257.trans (congrArg some (by kernel_rfl))
 t0 := Tryz.underlying0
 a0 := Tryz.isAgg0
 z0 := Tryz.sizeOf0
 v0 := Tryz.zeroValue0
 t3 := Tryz.underlying3
 a3 := Tryz.isAgg3
 z3 := Tryz.sizeOf3
 v3 := Tryz.zeroValue3
 t4 := Tryz.underlying4
 a4 := Tryz.isAgg4
 z4 := Tryz.sizeOf4
 v4 := Tryz.zeroValue4
 t5 := Tryz.underlying5
 a5 := Tryz.isAgg5
 z5 := Tryz.sizeOf5
 v5 := Tryz.zeroValue5
 t9 := Tryz.underlying9
 a9 := Tryz.isAgg9
 z9 := Tryz.sizeOf9
 v9 := Tryz.zeroValue9
 t28 := Tryz.underlying24
 a28 := Tryz.isAgg24
 z28 := Tryz.sizeOf24
 v28 := Tryz.zeroValue24
 t46 := Tryz.underlying105
 a46 := Tryz.isAgg105
 z46 := Tryz.sizeOf105
 v46 := Tryz.zeroValue105
 t51 := Tryz.underlying148
 a51 := Tryz.isAgg148
 z51 := Tryz.sizeOf148
 v51 := Tryz.zeroValue148
 t53 := Tryz.underlying150
 a53 := Tryz.isAgg150
 z53 := Tryz.sizeOf150
 v53 := Tryz.zeroValue150
 t131 := Tryz.underlying44
 a131 := Tryz.isAgg44
 z131 := Tryz.sizeOf44
 v131 := Tryz.zeroValue44
 t182 := Tryz.underlying200
 a182 := Tryz.isAgg200
 z182 := Tryz.sizeOf200
 v182 := Tryz.zeroValue200
 t183 := Tryz.underlying201
 a183 := Tryz.isAgg201
 z183 := Tryz.sizeOf201
 v183 := Tryz.zeroValue201
 t218 := Tryz.underlying214
 a218 := Tryz.isAgg214
 z218 := Tryz.sizeOf214
 v218 := Tryz.zeroValue214
 t222 := Tryz.underlying210
 a222 := Tryz.isAgg210
 z222 := Tryz.sizeOf210
 v222 := Tryz.zeroValue210
 t228 := Tryz.underlying224
 a228 := Tryz.isAgg224
 z228 := Tryz.sizeOf224
 v228 := Tryz.zeroValue224
 t229 := Tryz.underlying159
 a229 := Tryz.isAgg159
 z229 := Tryz.sizeOf159
 v229 := Tryz.zeroValue159 }
open Go.Sort Go.RowKit in
theorem Tryz.sort_Ints (blk off cap : Nat) (zs : List Int) (w : World) (hH : Holds (Value.int .i64) w blk off zs.toArray) (hblk : blk < w.heap.size) (hsz : zs.length < 4611686018427387904) :
  Calls Tryz.prog 178 #[.slice (some ⟨blk, off, none⟩) zs.length cap] w fun e w' =>
   e = .returned (.tuple #[]) ∧ ∃ n os, w' = grow (putRow (Value.int .i64) (Sort.ahead w n) blk off (zs.mergeSort fun x y => decide (x ≤ y)).toArray) os := Any.sort_Ints Tryz.lays191 blk off cap zs w hH hblk hsz
def Tryz.laysGg6_ren : Go.Shelf.Ren := ⟨fun | 6 => 182 | 10 => 119 | 11 => 120 | 12 => 122 | 13 => 195 | 14 => 196 | 24 => 209 | 25 => 210 | 26 => 170 | 27 => 211 | 28 => 212 | 29 => 213 | 30 => 214 | 31 => 215 | 32 => 216 | 33 => 217 | 34 => 236 | 35 => 237 | 36 => 238 | 37 => 239 | 38 => 240 | 39 => 254 | n => n, fun | 20 => 20 | 26 => 71 | 35 => 114 | 0 => 0 | 37 => 116 | 3 => 3 | 41 => 105 | 44 => 120 | 49 => 148 | 51 => 150 | 4 => 4 | 54 => 185 | 53 => 184 | 58 => 44 | 5 => 5 | 9 => 9 | 60 => 206 | 64 => 210 | 66 => 217 | 67 => 159 | 17 => 17 | 32 => 111 | 33 => 112 | 82 => 237 | 12 => 12 | 75 => 231 | 76 => 232 | 77 => 233 | 78 => 198 | 79 => 234 | 80 => 235 | n => n, fun | n => n⟩
theorem Tryz.laysGg6 : Go.Proofs.LaysGg.n6 Tryz.prog Tryz.laysGg6_ren := {
 mixed := by kernel_rfl
 f6 := Tryz.func182.trans (congrArg some (by kernel_rfl))
 f10 := Tryz.func119.trans (congrArg some (by kernel_rfl))
 f11 := Tryz.func120.trans (congrArg some (by kernel_rfl))
 f12 := Tryz.func122.trans (congrArg some (by kernel_rfl))
 f13 := Tryz.func195.trans (congrArg some (by kernel_rfl))
 f14 := Tryz.func196.trans (congrArg some (by kernel_rfl))
 f24 := Tryz.func209.trans (congrArg some (by kernel_rfl))
 f25 := Tryz.func210.trans (congrArg some (by kernel_rfl))
 f26 := Tryz.func170.trans (congrArg some (by kernel_rfl))
 f27 := Tryz.func211.trans (congrArg some (by kernel_rfl))
 f28 := Tryz.func212.trans (congrArg some (by kernel_rfl))
 f29 := Tryz.func213.trans (congrArg some (by kernel_rfl))
 f30 := Tryz.func214.trans (congrArg some (by kernel_rfl))
 f31 := Tryz.func215.trans (congrArg some (by kernel_rfl))
 f32 := Tryz.func216.trans (congrArg some (by kernel_rfl))
 f33 := Tryz.func217.trans (congrArg some (by kernel_rfl))
 f34 := Tryz.func236.trans (congrArg some (by kernel_rfl))
 f35 := Tryz.func237.trans (congrArg some (by kernel_rfl))
 f36 := Tryz.func238.trans (congrArg some (by kernel_rfl))
 f37 := Tryz.func239.trans (congrArg some (by kernel_rfl))
 f38 := Tryz.func240.trans (congrArg some (by kernel_rfl))
 f39 := Tryz.func254.trans (congrArg some (by kernel_rfl))
 t0 := Tryz.underlying0
 a0 := Tryz.isAgg0
 z0 := Tryz.sizeOf0
 v0 := Tryz.zeroValue0
 i0 := by kernel_rfl
 t3 := Tryz.underlying3
 a3 := Tryz.isAgg3
 z3 := Tryz.sizeOf3
 v3 := Tryz.zeroValue3
 i3 := by kernel_rfl
 t4 := Tryz.underlying4
 a4 := Tryz.isAgg4
 z4 := Tryz.sizeOf4
 v4 := Tryz.zeroValue4
 i4 := by kernel_rfl
 t5 := Tryz.underlying5
 a5 := Tryz.isAgg5
 z5 := Tryz.sizeOf5
 v5 := Tryz.zeroValue5
 i5 := by kernel_rfl
 t9 := Tryz.underlying9
 a9 := Tryz.isAgg9
 z9 := Tryz.sizeOf9
 v9 := Tryz.zeroValue9
 i9 := by kernel_rfl
 t12 := Tryz.underlying12
 a12 := Tryz.isAgg12
 z12 := Tryz.sizeOf12
 v12 := Tryz.zeroValue12
 i12 := by kernel_rfl
 t17 := Tryz.underlying17
 a17 := Tryz.isAgg17
 z17 := Tryz.sizeOf17
 v17 := Tryz.zeroValue17
 i17 := by kernel_rfl
 t20 := Tryz.underlying20
 a20 := Tryz.isAgg20
 z20 := Tryz.sizeOf20
 v20 := Tryz.zeroValue20
 i20 := by kernel_rfl
 t26 := Tryz.underlying71
 a26 := Tryz.isAgg71
 z26 := Tryz.sizeOf71
 v26 := Tryz.zeroValue71
 i26 := by kernel_rfl
 t32 := Tryz.underlying111
 a32 := Tryz.isAgg111
 z32 := Tryz.sizeOf111
 v32 := Tryz.zeroValue111
 i32 := by kernel_rfl
 t33 := Tryz.underlying112
 a33 := Tryz.isAgg112
 z33 := Tryz.sizeOf112
 v33 := Tryz.zeroValue112
 i33 := by kernel_rfl
 t35 := Tryz.underlying114
 a35 := Tryz.isAgg114
 z35 := Tryz.sizeOf114
 v35 := Tryz.zeroValue114
 i35 := by kernel_rfl
 t37 := Tryz.underlying116
 a37 := Tryz.isAgg116
 z37 := Tryz.sizeOf116
 v37 := Tryz.zeroValue116
 i37 := by kernel_rfl
 t41 := Tryz.underlying105
 a41 := Tryz.isAgg105
 z41 := Tryz.sizeOf105
 v41 := Tryz.zeroValue105
 i41 := by kernel_rfl
 t44 := Tryz.underlying120
 a44 := Tryz.isAgg120
 z44 := Tryz.sizeOf120
 v44 := Tryz.zeroValue120
 i44 := by kernel_rfl
 t49 := Tryz.underlying148
 a49 := Tryz.isAgg148
 z49 := Tryz.sizeOf148
 v49 := Tryz.zeroValue148
 i49 := by kernel_rfl
 t51 := Tryz.underlying150
 a51 := Tryz.isAgg150
 z51 := Tryz.sizeOf150
 v51 := Tryz.zeroValue150
 i51 := by kernel_rfl
 t53 := Tryz.underlying184
 a53 := Tryz.isAgg184
 z53 := Tryz.sizeOf184
 v53 := Tryz.zeroValue184
 i53 := by kernel_rfl
 t54 := Tryz.underlying185
 a54 := Tryz.isAgg185
 z54 := Tryz.sizeOf185
 v54 := Tryz.zeroValue185
 i54 := by kernel_rfl
 t58 := Tryz.underlying44
 a58 := Tryz.isAgg44
 z58 := Tryz.sizeOf44
 v58 := Tryz.zeroValue44
 i58 := by kernel_rfl
 t60 := Tryz.underlying206
 a60 := Tryz.isAgg206
 z60 := Tryz.sizeOf206
 v60 := Tryz.zeroValue206
 i60 := by kernel_rfl
 t64 := Tryz.underlying210
 a64 := Tryz.isAgg210
 z64 := Tryz.sizeOf210
 v64 := Tryz.zeroValue210
 i64 := by kernel_rfl
 t66 := Tryz.underlying217
 a66 := Tryz.isAgg217
 z66 := Tryz.sizeOf217
 v66 := Tryz.zeroValue217
 i66 := by kernel_rfl
 t67 := Tryz.underlying159
 a67 := Tryz.isAgg159
 z67 := Tryz.sizeOf159
 v67 := Tryz.zeroValue159
 i67 := by kernel_rfl
 t75 := Tryz.underlying231
 a75 := Tryz.isAgg231
 z75 := Tryz.sizeOf231
 v75 := Tryz.zeroValue231
 i75 := by kernel_rfl
 t76 := Tryz.underlying232
 a76 := Tryz.isAgg232
 z76 := Tryz.sizeOf232
 v76 := Tryz.zeroValue232
 i76 := by kernel_rfl
 t77 := Tryz.underlying233
 a77 := Tryz.isAgg233
 z77 := Tryz.sizeOf233
 v77 := Tryz.zeroValue233
 i77 := by kernel_rfl
 t78 := Tryz.underlying198
 a78 := Tryz.isAgg198
 z78 := Tryz.sizeOf198
 v78 := Tryz.zeroValue198
 i78 := by kernel_rfl
 t79 := Tryz.underlying234
 a79 := Tryz.isAgg234
 z79 := Tryz.sizeOf234
 v79 := Tryz.zeroValue234
 i79 := by kernel_rfl
 t80 := Tryz.underlying235
 a80 := Tryz.isAgg235
 z80 := Tryz.sizeOf235
 v80 := Tryz.zeroValue235
 i80 := by kernel_rfl
 t82 := Tryz.underlying237
 a82 := Tryz.isAgg237
 z82 := Tryz.sizeOf237
 v82 := Tryz.zeroValue237
 i82 := by kernel_rfl }
def Tryz.laysGt8_ren : Go.Shelf.Ren := ⟨fun | 8 => 62 | 13 => 119 | 14 => 120 | 16 => 122 | 15 => 121 | 29 => 170 | 30 => 171 | 42 => 191 | 49 => 207 | n => n, fun | 20 => 20 | 26 => 71 | 36 => 114 | 0 => 0 | 38 => 116 | 42 => 120 | 3 => 3 | 4 => 4 | 47 => 105 | 17 => 17 | 33 => 111 | 34 => 112 | 89 => 237 | 12 => 12 | 56 => 148 | 82 => 231 | 5 => 5 | 83 => 232 | 84 => 233 | 85 => 198 | 86 => 234 | 87 => 235 | n => n, fun | n => n⟩
theorem Tryz.laysGt8 : Go.Proofs.LaysGt.n8 Tryz.prog Tryz.laysGt8_ren := {
 mixed := by kernel_rfl
 f8 := Tryz.func62.trans (congrArg some (by kernel_rfl))
 f13 := Tryz.func119.trans (congrArg some (by kernel_rfl))
 f14 := Tryz.func120.trans (congrArg some (by kernel_rfl))
 f15 := Tryz.func121.trans (congrArg some (by kernel_rfl))
 f16 := Tryz.func122.trans (congrArg some (by kernel_rfl))
 f29 := Tryz.func170.trans (congrArg some (by kernel_rfl))
 f30 := Tryz.func171.trans (congrArg some (by kernel_rfl))
 f42 := Tryz.func191.trans (congrArg some (by kernel_rfl))
 f49 := Tryz.func207.trans (congrArg some (by kernel_rfl))
 t0 := Tryz.underlying0
 a0 := Tryz.isAgg0
 z0 := Tryz.sizeOf0
 v0 := Tryz.zeroValue0
 i0 := by kernel_rfl
 t3 := Tryz.underlying3
 a3 := Tryz.isAgg3
 z3 := Tryz.sizeOf3
 v3 := Tryz.zeroValue3
 i3 := by kernel_rfl
 t4 := Tryz.underlying4
 a4 := Tryz.isAgg4
 z4 := Tryz.sizeOf4
 v4 := Tryz.zeroValue4
 i4 := by kernel_rfl
 t5 := Tryz.underlying5
 a5 := Tryz.isAgg5
 z5 := Tryz.sizeOf5
 v5 := Tryz.zeroValue5
 i5 := by kernel_rfl
 t12 := Tryz.underlying12
 a12 := Tryz.isAgg12
 z12 := Tryz.sizeOf12
 v12 := Tryz.zeroValue12
 i12 := by kernel_rfl
 t17 := Tryz.underlying17
 a17 := Tryz.isAgg17
 z17 := Tryz.sizeOf17
 v17 := Tryz.zeroValue17
 i17 := by kernel_rfl
 t20 := Tryz.underlying20
 a20 := Tryz.isAgg20
 z20 := Tryz.sizeOf20
 v20 := Tryz.zeroValue20
 i20 := by kernel_rfl
 t26 := Tryz.underlying71
 a26 := Tryz.isAgg71
 z26 := Tryz.sizeOf71
 v26 := Tryz.zeroValue71
 i26 := by kernel_rfl
 t33 := Tryz.underlying111
 a33 := Tryz.isAgg111
 z33 := Tryz.sizeOf111
 v33 := Tryz.zeroValue111
 i33 := by kernel_rfl
 t34 := Tryz.underlying112
 a34 := Tryz.isAgg112
 z34 := Tryz.sizeOf112
 v34 := Tryz.zeroValue112
 i34 := by kernel_rfl
 t36 := Tryz.underlying114
 a36 := Tryz.isAgg114
 z36 := Tryz.sizeOf114
 v36 := Tryz.zeroValue114
 i36 := by kernel_rfl
 t38 := Tryz.underlying116
 a38 := Tryz.isAgg116
 z38 := Tryz.sizeOf116
 v38 := Tryz.zeroValue116
 i38 := by kernel_rfl
 t42 := Tryz.underlying120
 a42 := Tryz.isAgg120
 z42 := Tryz.sizeOf120
 v42 := Tryz.zeroValue120
 i42 := by kernel_rfl
 t47 := Tryz.underlying105
 a47 := Tryz.isAgg105
 z47 := Tryz.sizeOf105
 v47 := Tryz.zeroValue105
 i47 := by kernel_rfl
 t56 := Tryz.underlying148
 a56 := Tryz.isAgg148
 z56 := Tryz.sizeOf148
 v56 := Tryz.zeroValue148
 i56 := by kernel_rfl
 t82 := Tryz.underlying231
 a82 := Tryz.isAgg231
 z82 := Tryz.sizeOf231
 v82 := Tryz.zeroValue231
 i82 := by kernel_rfl
 t83 := Tryz.underlying232
 a83 := Tryz.isAgg232
 z83 := Tryz.sizeOf232
 v83 := Tryz.zeroValue232
 i83 := by kernel_rfl
 t84 := Tryz.underlying233
 a84 := Tryz.isAgg233
 z84 := Tryz.sizeOf233
 v84 := Tryz.zeroValue233
 i84 := by kernel_rfl
 t85 := Tryz.underlying198
 a85 := Tryz.isAgg198
 z85 := Tryz.sizeOf198
 v85 := Tryz.zeroValue198
 i85 := by kernel_rfl
 t86 := Tryz.underlying234
 a86 := Tryz.isAgg234
 z86 := Tryz.sizeOf234
 v86 := Tryz.zeroValue234
 i86 := by kernel_rfl
 t87 := Tryz.underlying235
 a87 := Tryz.isAgg235
 z87 := Tryz.sizeOf235
 v87 := Tryz.zeroValue235
 i87 := by kernel_rfl
 t89 := Tryz.underlying237
 a89 := Tryz.isAgg237
 z89 := Tryz.sizeOf237
 v89 := Tryz.zeroValue237
 i89 := by kernel_rfl }
open Go.RowKit Go.Sort in
theorem Tryz.sort_Ints_none (p : Option Addr) (cap : Nat) (w : World) :
  Calls Tryz.prog 178 #[.slice p 0 cap] w fun e w' => e = .returned (.tuple #[]) ∧ w' = w := Any.sort_Ints_none Tryz.lays191 p cap w
end Go.Proofs
end
namespace Go.Proofs.YtkcgdnnipohehaaGreatDoor
open Go.RowKit
set_option linter.unusedVariables false
set_option maxRecDepth 100000
set_option maxHeartbeats 6400000

section
open Go.RowKit Go.Shelf
attribute [local go_sem ↓] Go.wp_at_zero Go.wp_at_succ
noncomputable def tiST : TypeInfo := (Tryz.prog.info? 24).get (by kernel_rfl)
noncomputable def tiIT : TypeInfo := (Tryz.prog.info? 3).get (by kernel_rfl)
theorem swapKT (n : Nat) (h2 : 2 ≤ n) : Lib.swapperK n tiIT 2 = 5 := by
 have a : tiIT.hasPointers = false := by kernel_rfl
 have b : tiIT.bytes = 8 := by kernel_rfl
 have c : (n == 0) = false := by simp; omega
 have d : (n == 1) = false := by simp; omega
 simp [Lib.swapperK, a, b, c, d]
theorem sliceT (base g n c B : Nat) (d0 : Nat → Int) (w : World) (h : SS w base g n c B d0) (hn2 : 2 ≤ n) (hn : n ≤ 1099511627776) :
  Calls Tryz.prog 62 #[.iface 24 (.slice (some ⟨g, 0, none⟩) n c), .func (.func 63) #[] #[.pointer (some ⟨B, 0, none⟩)]] w (StP w base g n c B fun d' => StM.Stb keyT 0 n d0 d' ∧ StM.Srt keyT 0 n d') := by
 have hagg : ∀ w, (isAgg 3).run Tryz.prog w = .ok false w := fun _ => by kernel_rfl
 obtain ⟨W, hW⟩ : ∃ W, stableWorld Tryz.prog Tryz.laysGt8_ren 24 (some ⟨g, 0, none⟩) n c w = W := ⟨_, rfl⟩
 have hb : Below w.heap.size w W := by
  rw [← hW]
  unfold stableWorld
  exact bel_alloc (bel_alloc (Below.refl _ _) _) _
 refine (Any.sort_SliceStable_of_stable Tryz.laysGt8 24 3 tiST tiIT (by kernel_rfl) (by kernel_rfl) (by kernel_rfl) (by kernel_rfl) 2 (fun _ => by kernel_rfl) (some ⟨g, 0, none⟩) n c (by omega) 165 (by rw [swapKT n hn2]; kernel_rfl) (.func 63) #[] #[.pointer (some ⟨B, 0, none⟩)] w
   (fun w' => ∃ d', SS w' base g n c B d' ∧ w.grownBy w' (some g) ∧ StM.Stb keyT 0 n d0 d' ∧ StM.Srt keyT 0 n d') ?_).mono (fun e w' h => h)
 have hbd : sliceBound Tryz.prog 3 tiIT 2 (some ⟨g, 0, none⟩) n c = #[.slice (some ⟨g, 0, none⟩) n c, typeHandle Tryz.prog 3] := by
  unfold sliceBound
  rw [swapKT n hn2]
  rfl
 rw [hbd, hW]
 have hx : ∀ args W, (callFunc 165 args).run Tryz.prog W = ((Extern.ReflectliteSwapper.swap true args).run Tryz.prog W).andThen fun v w' => .ok (.value v) w' := fun args W => run_callFunc_extern Tryz.func165 (by kernel_rfl) (by kernel_rfl) (by kernel_rfl) (e := Extern.ReflectliteSwapper.swap true) (by kernel_rfl) args W
 refine (stabT _ _ base g n c B (swapT _ true hx hagg base g n c B) hn d0 W (h.keep hb)).mono ?_
 rintro e w' ⟨rfl, d', h1, h2, h3⟩
 exact ⟨rfl, d', h1, ((⟨hb.os, hb.tape, hb.output, hb.size, fun k hk _ => hb.block k hk⟩ : w.grownBy W (some g))).trans h2, h3⟩
theorem sliceT1 (p : Option Addr) (n c : Nat) (hn : n ≤ 1) (F : Value) (lf : Fn) (lb : Array Value) (hF : F = .func lf #[] lb) (w : World) :
  Calls Tryz.prog 62 #[.iface 24 (.slice p n c), F] w (fun e w' => e = .returned (.tuple #[]) ∧ Below w.heap.size w w') := by
 subst hF
 have hk : ∃ f, Tryz.prog.funcs.findIdx? (·.name == "internal/reflectlite" ++ ".Swapper$" ++ toString (Lib.swapperK n tiIT 2)) = some f := by
  rcases (by omega : n = 0 ∨ n = 1) with rfl | rfl
  ·exact ⟨161, by kernel_rfl⟩
  ·exact ⟨162, by kernel_rfl⟩
 obtain ⟨f, hf⟩ := hk
 refine (Any.sort_SliceStable_tiny Tryz.laysGt8 24 3 tiST tiIT (by kernel_rfl) (by kernel_rfl) (by kernel_rfl) (by kernel_rfl) 2 (fun _ => by kernel_rfl) p n c hn f hf lf #[] lb w).mono ?_
 rintro e w' ⟨rfl, os, rfl⟩
 exact ⟨rfl, rfl, rfl, rfl, by simp [Sort.grow], fun k hk => by simp [Sort.grow, Array.getElem?_append, hk]⟩
end

section
section
variable {P : Program} {ops : Array Oper} {C : World → Prop} {Q : Exit → Act → World → Prop}
theorem wp_region_rgC {id : Nat} {a : Act} {w : World} {l : List Oper} (n : Nat) (hl : l.length = n) (hm : P.follows .mixedOrders = true) (hC : C { w with drawn := w.drawn + 1 }) (h : wpRg P .any l.toArray C (NoPanic Q) n (Array.replicate n false) a w) : (Code.region id l.toArray true).wp P Q a w := by
 subst hl
 exact wp_region_noPanic (wp_region_any hm (wpAny_of_wpRg _ _ _ _ hC (wpRg_ext h (ExC.drawn w))))
theorem rgTC (hCE : ∀ w w', C w → Ext w w' → C w') {i d : Nat} {oi : Oper} {v : Value} {f : Nat} {listed : Array Bool} {ts : Array Value} {ds : List Deferred} {w : World} (hi : ops[i]? = some oi) (hd : oi.dst = some d)
  (hs : Region.noSelect ops = true) (hf : Region.free .any ops listed i = true) (hr : (Region.ready .any ops listed).contains i = true) (hw : Region.wanted oi (yielded ops ts) = true)
  (hy : ∀ w', C w' → oi.quietAt P { tmps := ts, defers := ds } (Ext w') w' v)
  (h : wpRg P .any ops C (NoPanic Q) f (listed.setIfInBounds i true) { tmps := ts.setIfInBounds d v, defers := ds } w) : wpRg P .any ops C (NoPanic Q) (f + 1) listed { tmps := ts, defers := ds } w :=
 wpRg_first hCE hi (Region.noSelect_spec hs) (fun _ _ _ h => h) f listed _ w (Region.free_spec hi hf) (by simpa using hr) (.inl ⟨hw, hy⟩) (by rw [hd]; exact h)
end
section
variable (w : World) {ops : Array Oper} {o : Oper} {a : Act} {Q : Exit → Act → World → Prop}
theorem wpN (s x : Operand) {K : Act → World → Prop} (ho : o.op = .call { callee := .builtin .append, args := #[s, x], argTypes := #[24, 24] })
  (base : Nat) (A : Option Addr) (n c : Nat) (l : List Int) (hs : a.eval s = .slice A n c) (hown : w.ownsRow base 3 1 (.slice A n c) n (vI l))
  (A2 : Option Addr) (m c2 : Nat) (l2 : List Int) (hx : a.eval x = .slice A2 m c2) (hr : Rd w A2 (vI l2)) (hl : l2.length = m) (hb : n + m ≤ 1099511627776) (hbase : base ≤ w.heap.size)
  (h : ∀ A' c' w', w'.ownsRow base 3 1 (.slice A' (n + m) c') (n + m) (vI (l ++ l2)) → w.grownBy w' (ob A) → (ob A' = ob A ∨ ob A' = some w.heap.size) → K (a.put o.dst (.slice A' (n + m) c')) w') :
  o.wp Tryz.prog a w K Q := by
 obtain ⟨i0, hi, hz0, hz1, hz2⟩ := info_parts infoI
 refine wp_app w s x _ ho base _ i0 _ 1 8 Tryz.underlying24 hi hz0 hz1 hz2 rfl (by omega) A n c _ hs hown A2 m c2 _ hx hr (by rw [vI_length, hl]; omega) (vI_one _) (by unfold maxLen; omega) (by omega) hbase ?_
 intro A' c' w' h1
 rw [← vI_append] at h1
 exact h A' c' w' h1
end
end

section
attribute [local go_sem ↓] Go.wp_at_zero Go.wp_at_succ
theorem sg_list : ∀ (L : List Int), StM.sg (fun j => L.getD j 0) 0 L.length = L := by
 intro L
 apply List.ext_getElem?
 intro k
 by_cases hk : k < L.length
 ·rw [StM.sg_get _ _ _ _ hk, Nat.zero_add, List.getD_eq_getElem?_getD, List.getElem?_eq_getElem hk]
  rfl
 ·rw [List.getElem?_eq_none (by rw [StM.sg_len]; omega), List.getElem?_eq_none (by omega)]
theorem sortT (base bx k c : Nat) (o : Option Addr) (L : List Int) (w : World) (hk : L.length = k) (hkm : k ≤ 1048576) (ho : w.ownsRow base 3 1 (.slice o k c) k (vI L)) (hb : Blk w bx 24 #[.slice o k c]) (hbx : bx < base) (hT : Tb w) (htb : 1 < base) (hL : ∀ x ∈ L, 0 ≤ x ∧ x < 2 ^ 62) :
  Calls Tryz.prog 62 #[.iface 24 (.slice o k c), .func (.func 63) #[] #[.pointer (some ⟨bx, 0, none⟩)]] w
   (fun e w' => e = .returned (.tuple #[]) ∧ w'.ownsRow base 3 1 (.slice o k c) k (vI (StM.stS keyT L)) ∧ Blk w' bx 24 #[.slice o k c] ∧ w.grownBy w' (ob o)) := by
 by_cases h2 : 2 ≤ k
 ·obtain ⟨g, rfl, hg1, hg2⟩ := own_at ho (by omega)
  have hS : SS w base g k c bx (fun j => L.getD j 0) := ⟨by rw [← hk, sg_list, hk]; exact ho, by simpa using hb.cell 0, by omega, hT, htb, fun j hj => by
   have hjl : j < L.length := by omega
   rw [List.getD_eq_getElem?_getD, List.getElem?_eq_getElem hjl]
   exact hL _ (List.getElem_mem hjl)⟩
  refine (sliceT base g k c bx _ w hS h2 (by omega)).mono ?_
  rintro e w' ⟨rfl, d', h3, h4, h5, h6⟩
  have he := StM.stb_eq h5 h6
  rw [← hk, sg_list] at he
  have ho' := h3.own
  rw [← hk, he, hk] at ho'
  exact ⟨rfl, ho', hb.grown h4 (fun e => by injection e with e; omega), h4⟩
 ·refine (sliceT1 o k c (by omega) _ _ _ rfl w).mono ?_
  rintro e w' ⟨rfl, hbel⟩
  have he : StM.stS keyT L = L := by
   rcases (by omega : k = 0 ∨ k = 1) with h | h
   ·rw [List.eq_nil_of_length_eq_zero (by omega : L.length = 0)]; rfl
   ·obtain ⟨x, rfl⟩ := List.length_eq_one_iff.1 (hk.trans h)
    rfl
  rw [he]
  exact ⟨rfl, own_keep ho hbel, hb.below hbel, ⟨hbel.os, hbel.tape, hbel.output, hbel.size, fun j hj _ => hbel.block j hj⟩⟩
theorem TurnTiling_i (W : Int) (A : Option Addr) (n c : Nat) (D : Option Addr) (k cd : Nat) (rows l : List Int) (m : Int) (w : World) (hr : Rd w A (vI rows)) (hl : rows.length = n) (hrI : Rd w D (vI l)) (hlI : l.length = k) (hx : ∀ x ∈ l, x < 9223372036854775808) (hk : k ≤ 1048576) (hT : Tb w) :
  Calls Tryz.prog 7 #[.agg #[.int .i64 W, .slice A n c], .slice D k cd, .int .i64 m] w (RetS2 w 3 1 (vI (ttV W rows l m)) (.bool (ttOk W rows l m))) := by
 have HL := Lib.hid hl
 have HR := Lib.hid hr
 have HRI := Lib.hid hrI
 have HLI := Lib.hid hlI
 have HX := Lib.hid hx
 have HT := Lib.hid hT
 have htb := World.block_lt_of_cell? w _ (hT 0 (by decide))
 have HTBL : Hid (1 < w.heap.size) := htb
 have hml := motV_len W rows
 have HB0 := Lib.hid (Blk.new w 26 #[.int .i64 W, .slice A n c])
 have hnil : ∀ u : World, Below w.heap.size w u → ttOk W rows l m = false → RetS2 w 3 1 (vI (ttV W rows l m)) (.bool (ttOk W rows l m)) (.returned (.tuple #[.slice none 0 0, .bool false])) u := fun u hb h => ⟨none, 0, 0, by rw [h], by rw [ttV_no h]; exact own_nil _ _ _ _, hb⟩
 have HNIL := Lib.hid hnil
 clear hr hl hrI hlI hx hT hnil htb
 cases ha : (motV W rows).any (· == m) with
 | false =>
  have HA := Lib.hid ha
  have HTO : Hid (ttOk W rows l m = false) := by show _ = _; unfold ttOk; rw [ha]; rfl
  clear ha
  go_enter Tryz.func7, Tryz.ntmps7
  go_wp2_with fail
  refine (RegionMotions_i _ _ _ _ rows _ (HR.out.alloc _) HL.out).mono ?_
  rintro e w1 ⟨B, q, cq, rfl, ho, hb1⟩
  have hq : (motV W rows).length = q := by have := own_len ho; rw [vI_length] at this; omega
  have HQ := Lib.hid hq
  have hq8 : q ≤ 1099511627776 := by omega
  clear hq hml
  go_wp2_with fail
  refine (hasInt_i _ _ _ _ m _ (Rd.of_own ho) HQ.out hq8).mono ?_
  rw [HA.out]
  rintro e w2 ⟨rfl, hb2⟩
  go_wp2_with fail
  go_ret2
  exact HNIL.out _ (by (repeat (first | with_reducible exact Below.refl _ _ | with_reducible assumption | with_reducible apply bel_alloc | with_reducible apply bel_drew | with_reducible apply bel_drewN | ((with_reducible refine bel_set ?_ ?_); rotate_left; (simp <;> omega)) | (with_reducible refine bel_trans ?_ (by with_reducible assumption))))) HTO.out
 | true =>
  obtain ⟨hv, k', hk8, rfl, hg⟩ := motV_any ha
  have HA := Lib.hid ha
  have HV := Lib.hid hv
  obtain ⟨n0, rfl, hn1, hn6, hh1, hh6, _⟩ := isReg_yes hv
  rw [HL.out] at hh1 hh6 hg
  rw [Int.toNat_natCast] at hg
  have HG0 : Hid (goesM n0 n k' = true) := hg
  clear ha hv hg
  go_enter Tryz.func7, Tryz.ntmps7
  go_wp2_with fail
  refine (RegionMotions_i _ _ _ _ rows _ (HR.out.alloc _) HL.out).mono ?_
  rintro e w1 ⟨B, q, cq, rfl, ho, hb1⟩
  have hq : (motV (n0 : Int) rows).length = q := by have := own_len ho; rw [vI_length] at this; omega
  have HQ := Lib.hid hq
  have hq8 : q ≤ 1099511627776 := by omega
  clear hq hml
  go_wp2_with fail
  refine (hasInt_i _ _ _ _ (k' : Int) _ (Rd.of_own ho) HQ.out hq8).mono ?_
  rw [HA.out]
  rintro e w2 ⟨rfl, hb2⟩
  have hb2q : Below w.heap.size w w2 := (by (repeat (first | with_reducible exact Below.refl _ _ | with_reducible assumption | with_reducible apply bel_alloc | with_reducible apply bel_drew | with_reducible apply bel_drewN | ((with_reducible refine bel_set ?_ ?_); rotate_left; (simp <;> omega)) | (with_reducible refine bel_trans ?_ (by with_reducible assumption)))))
  have HB2 := Lib.hid hb2q
  have HBX := Lib.hid ((HB0.out.below hb1).below hb2)
  have HBO := Lib.hid (Blk.new w2 24 #[.slice none 0 0])
  have HBX2 := Lib.hid (HBX.out.alloc (.cells #[.slice none 0 0] 24))
  have HB3 := Lib.hid (bel_alloc HB2.out (.cells #[.slice none 0 0] 24))
  have hbl0 := HBX.out.lt
  have hON := own_nil (w2.alloc (.cells #[.slice none 0 0] 24)) (w2.heap.size + 1) 3 1
  have HON := Lib.hid hON
  clear ho hb1 hb2 hb2q hON
  go_wp2_with fail
  go_loopw [18] (fun e18 wr => ∃ (i co : Nat) (o : Option Addr), i ≤ k ∧ e18 = .int .i64 i ∧ Blk wr w2.heap.size 24 #[.slice o i co] ∧ wr.ownsRow (w2.heap.size + 1) 3 1 (.slice o i co) i (vI ((l.take i).map fun x => tmV n0 rows x k')) ∧ (∀ x ∈ l.take i, okMask n0 rows x = true) ∧ Blk wr w.heap.size 26 #[.int .i64 (n0 : Int), .slice A n c] ∧ Below w.heap.size w wr ∧ w2.heap.size + 1 ≤ wr.heap.size) (fun e18 _ => k - (intOf e18).toNat)
  case atStart => exact ⟨0, 0, none, Nat.zero_le _, rfl, HBO.out, by simpa [vI] using HON.out, (fun x h => by simp at h), HBX2.out, HB3.out, by simp⟩
  case round =>
   obtain ⟨i, co, o, hik, rfl, hbo, hown, hall, hbox, hb, hsz⟩ := hrel
   have HBOW := Lib.hid hbo
   have HOW := Lib.hid hown
   have HALL := Lib.hid hall
   have HBXW := Lib.hid hbox
   have HB := Lib.hid hb
   have b0 : wr.cell? ⟨w.heap.size, 0, none⟩ = some (.int .i64 (n0 : Int)) := by simpa using hbox.cell 0
   have b1 : wr.cell? ⟨w.heap.size, 1, none⟩ = some (.slice A n c) := by simpa using hbox.cell 1
   have bl := hbox.lt
   have o0 : wr.cell? ⟨w2.heap.size, 0, none⟩ = some (.slice o i co) := by simpa using hbo.cell 0
   have ol := hbo.lt
   have of_ : wr.frozen? ⟨w2.heap.size, 0, none⟩ = false := hbo.frozen 0
   clear hbo hown hall hbox hb
   by_cases hlt : i < k
   ·have hi0 : (0 : Int) ≤ (i : Int) := by omega
    have hi1 : (i : Int) < (k : Int) := by omega
    have hil : i < l.length := by rw [HLI.out]; exact hlt
    obtain ⟨gl, off, hA, hgl2, d1⟩ := RdI.at_ (HRI.out.below HB.out) hil
    have hmap := map_take_succ (fun x => tmV n0 rows x k') hil
    have hals := fun h2 => all_take_succ (P := fun x => okMask n0 rows x = true) hil HALL.out h2
    obtain ⟨x, hx⟩ : ∃ x, l[i] = x := ⟨_, rfl⟩
    have hxm : x ∈ l := by rw [← hx]; exact List.getElem_mem hil
    rw [hx] at d1 hmap hals
    have HMAP := Lib.hid hmap
    have HALS := Lib.hid hals
    have HXM := Lib.hid hxm
    have hx63 := HX.out x hxm
    obtain ⟨tk, htk⟩ : ∃ tk, okMask n0 rows x = tk := ⟨_, rfl⟩
    have HIM : Hid (∀ w', Below wr.heap.size wr w' → Calls Tryz.prog 60 #[.agg #[.int .i64 (n0 : Int), .slice A n c], .int .i64 x] w' (Ret w' (.bool tk))) := fun w' hb' => by rw [← htk]; exact isMask_i n0 A n c rows x w' ((HR.out.below HB.out).below hb') HL.out HV.out hx63
    have HTK := Lib.hid htk
    clear hx hxm hx63 hil hmap hals htk
    subst hA
    cases tk with
    | false =>
     have HTO : Hid (ttOk n0 rows l k' = false) := ttOk_no HXM.out (by unfold tmOk; rw [HTK.out, Bool.and_false])
     go_wp2_with fail
     refine (HIM.out _ (Below.refl _ _)).mono ?_
     rintro e w3 ⟨rfl, hb3⟩
     have hbz := bel_trans HB.out hb3
     go_wp2_with fail
     go_ret2
     exact HNIL.out _ hbz HTO.out
    | true =>
     have HAL2 := Lib.hid (HALS.out HTK.out)
     have hok := HTK.out
     unfold okMask at hok
     rw [Bool.and_eq_true, decide_eq_true_eq] at hok
     obtain ⟨hx0, hin⟩ := hok
     obtain ⟨q0, rfl⟩ : ∃ q : Nat, x = (q : Int) := ⟨x.toNat, by omega⟩
     have hlt2 := inM_lt hin (maskV_lt2 HV.out)
     rw [Int.toNat_natCast, Int.toNat_natCast, HL.out] at hlt2
     have HLT : Hid (q0 < 2 ^ (n0 * n)) := hlt2
     have htv : tmV n0 rows q0 k' = ((turnTo n0 n k' q0 (n0 * n) : Nat) : Int) := by
      unfold tmV
      rw [tmOk_eq HA.out, HTK.out, HL.out]
      rfl
     obtain ⟨tv, htv2⟩ : ∃ tv, tmV n0 rows q0 k' = tv := ⟨_, rfl⟩
     have HCM : Hid (∀ w', Below wr.heap.size wr w' → Calls Tryz.prog 61 #[.agg #[.int .i64 (n0 : Int), .slice A n c], .int .i64 (q0 : Int), .int .i64 (k' : Int)] w' (Ret w' (.int .i64 tv))) := fun w' hb' => by rw [← htv2, htv]; exact carryMask_i n0 A n c rows q0 k' w' ((HR.out.below HB.out).below hb') HL.out ⟨hn1, hn6⟩ ⟨hh1, hh6⟩ hk8 HG0.out HLT.out
     have hmp := HMAP.out
     rw [htv2] at hmp
     have HMAP := Lib.hid hmp
     clear hx0 hin hlt2 htv htv2 hmp HALS
     go_wp2_with fail
     refine (HIM.out _ (Below.refl _ _)).mono ?_
     rintro e w3 ⟨rfl, hb3⟩
     have HB3 := Lib.hid hb3
     have hbx3 := HBXW.out.below hb3
     have hbo3 := HBOW.out.below hb3
     clear b0 b1 bl o0 ol of_ d1 hb3
     have b0 : w3.cell? ⟨w.heap.size, 0, none⟩ = some (.int .i64 (n0 : Int)) := by simpa using hbx3.cell 0
     have b1 : w3.cell? ⟨w.heap.size, 1, none⟩ = some (.slice A n c) := by simpa using hbx3.cell 1
     have bl := hbx3.lt
     have o0 : w3.cell? ⟨w2.heap.size, 0, none⟩ = some (.slice o i co) := by simpa using hbo3.cell 0
     have ol := hbo3.lt
     clear hbx3 hbo3
     go_wp2_with fail
     have HBO3 := Lib.hid (HBOW.out.below HB3.out)
     refine wp_region_rgC (C := (fun z : World => Blk z w.heap.size 26 #[.int .i64 (n0 : Int), .slice A n c])) 8 rfl (by kernel_rfl) (HBXW.out.below (bel_trans HB3.out (ExC.drawn _))) ?_
     refine rgTC (fun _ _ h k => Blk.below h k) (i := 1) (v := ?_) rfl rfl (by kernel_rfl) (by kernel_rfl) (by kernel_rfl) (by rfl) (fun w' hcw => ?_) ?_; rotate_left; (have r0 : w'.cell? ⟨w.heap.size, 0, none⟩ = some (.int .i64 (n0 : Int)) := (by simpa using Blk.cell hcw 0); have r1 : w'.cell? ⟨w.heap.size, 1, none⟩ = some (.slice A n c) := (by simpa using Blk.cell hcw 1); have rl := Blk.lt hcw; go_simp; first | done | with_reducible rfl); simp only [sq1, sq2, sq3]
     refine rgTC (fun _ _ h k => Blk.below h k) (i := 2) (v := ?_) rfl rfl (by kernel_rfl) (by kernel_rfl) (by kernel_rfl) (by rfl) (fun w' hcw => ?_) ?_; rotate_left; (go_simp; first | done | with_reducible rfl); simp only [sq1, sq2, sq3]
     refine rgTC (fun _ _ h k => Blk.below h k) (i := 3) (v := ?_) rfl rfl (by kernel_rfl) (by kernel_rfl) (by kernel_rfl) (by rfl) (fun w' hcw => ?_) ?_; rotate_left; (go_simp; first | done | with_reducible rfl); simp only [sq1, sq2, sq3]
     clear b0 b1 bl o0 ol
     refine rgK_two (i := 0) (k := 4) (by kernel_rfl) rfl rfl rfl rfl (fun x0 hc_x0 he_x0 K hK => ?_) (fun x4 hc_x4 he_x4 K hK => ?_)
     ·have hqx0 : Below w3.heap.size w3 x0 := bel_trans (Below.refl _ _) he_x0
      have z0 : x0.cell? ⟨w2.heap.size, 0, none⟩ = some (.slice o i co) := by simpa using (HBO3.out.below hqx0).cell 0
      have zl := (HBO3.out.below hqx0).lt
      go_simp
      refine hK _ _ hc_x0 ?_
      clear hK K z0 zl
      (try simp only [sq1, sq2, sq3])
      refine rgK_one (i := 4) (by kernel_rfl) rfl rfl (fun x4 hc_x4 he_x4 K hK => ?_)
      have hqx4 : Below w3.heap.size w3 x4 := bel_trans hqx0 he_x4
      go_simp
      refine (HCM.out _ (bel_trans HB3.out hqx4)).mono ?_
      rintro e v4 ⟨rfl, hbv4⟩
      have hqv4 := bel_trans hqx4 hbv4
      refine hK _ _ (Blk.below hc_x4 hbv4) ?_
      clear hK K
      (try simp only [Act.put])
      (try simp only [sq1, sq2, sq3])
      refine rgK_one (i := 5) (by kernel_rfl) rfl rfl (fun x5 hc_x5 he_x5 K hK => ?_)
      have hqx5 : Below w3.heap.size w3 x5 := bel_trans hqv4 he_x5
      go_simp
      refine hK _ _ (Blk.alloc hc_x5 _) ?_
      clear hK K
      (try simp only [sq1, sq2, sq3])
      have hnx5 : Rd (x5.alloc (.cells #[.int .i64 tv] 3)) (some ⟨x5.heap.size, 0, none⟩) (vI [tv]) := rd_newI _ _ _
      have hqa : Below w3.heap.size w3 (x5.alloc (.cells #[.int .i64 tv] 3)) := bel_alloc hqx5 _
      refine rgK_one (i := 6) (by kernel_rfl) rfl rfl (fun x6 hc_x6 he_x6 K hK => ?_)
      have hq6 : Below w3.heap.size w3 x6 := bel_trans hqa he_x6
      refine wpN _ _ _ rfl (w2.heap.size + 1) o i co ((l.take i).map fun x => tmV n0 rows x k') rfl (own_keep HOW.out (bel_trans HB3.out hq6)) (some ⟨x5.heap.size, 0, none⟩) 1 1 [tv] rfl (hnx5.below he_x6) rfl (by omega) (by have h1 := HB3.out.size; have h2 := hq6.size; omega) ?_
      intro D6 c6 w6 ho6 hg6 hat6
      have hbo6 := (HBO3.out.below hq6).grown hg6 (fun e => by have := (own_lt HOW.out _ e.symm).1; omega)
      refine hK _ _ (Blk.grown hc_x6 hg6 (fun e => by have := (own_lt HOW.out _ e.symm).1; omega)) ?_
      clear hK K
      (try simp only [sq1, sq2, sq3])
      (try simp only [Act.put])
      (try simp only [sq1, sq2, sq3])
      refine rgK_one (i := 7) (by kernel_rfl) rfl rfl (fun x7 hc_x7 he_x7 K hK => ?_)
      have hbo7 := hbo6.below he_x7
      have z0 : x7.cell? ⟨w2.heap.size, 0, none⟩ = some (.slice o i co) := by simpa using hbo7.cell 0
      have zf : x7.frozen? ⟨w2.heap.size, 0, none⟩ = false := hbo7.frozen 0
      have zl := hbo7.lt
      go_simp
      refine hK _ _ (Blk.far hc_x7 (p := ⟨w2.heap.size, 0, none⟩) (by show w.heap.size ≠ w2.heap.size; omega) _) ?_
      clear hK K
      (try simp only [sq1, sq2, sq3])
      refine ⟨by kernel_rfl, fun wz hcz hez => NoPanic.normal ?_⟩
      have e1 : i + 1 = i + 1 := rfl
      have HBOZ := Lib.hid ((hbo7.set_ 0 (.slice D6 (i + 1) c6)).below hez)
      have HOWZ := Lib.hid (own_keep (own_set (own_keep ho6 he_x7) (p := ⟨w2.heap.size, 0, none⟩) (fun g e => by have h9 := (own_lt ho6 g e).1; show g ≠ w2.heap.size; omega) (.slice D6 (i + 1) c6)) hez)
      have hbz : Below w.heap.size w wz := bel_trans (bel_set (bel_trans (bel_app (bel_trans HB.out (bel_trans HB3.out hq6)) hg6 (fun g e => by have := (own_lt HOW.out g e).1; omega)) he_x7) (by show w.heap.size ≤ w2.heap.size; omega)) hez
      have HBZ := Lib.hid hbz
      have HSZ := Lib.hid (show w2.heap.size + 1 ≤ wz.heap.size by have h1 := hez.size; have h2 := he_x7.size; have h3 := hg6.size; have h4 := hq6.size; have h5 := HB3.out.size; simp only [World.size_setCell] at h1; omega)
      have HCZ := Lib.hid hcz
      clear hcz hez hbz hbo6 hbo7 z0 zf zl
      go_wp2_with fail
      exact ⟨⟨i + 1, c6, D6, by omega, by go_num, HBOZ.out, by rw [HMAP.out]; exact HOWZ.out, HAL2.out, HCZ.out, HBZ.out, HSZ.out⟩, by simp [intOf]; omega⟩
     ·have hqx4 : Below w3.heap.size w3 x4 := bel_trans (Below.refl _ _) he_x4
      go_simp
      refine (HCM.out _ (bel_trans HB3.out hqx4)).mono ?_
      rintro e v4 ⟨rfl, hbv4⟩
      have hqv4 := bel_trans hqx4 hbv4
      refine hK _ _ (Blk.below hc_x4 hbv4) ?_
      clear hK K
      (try simp only [Act.put])
      (try simp only [sq1, sq2, sq3])
      refine rgK_two (i := 0) (k := 5) (by kernel_rfl) rfl rfl rfl rfl (fun x0 hc_x0 he_x0 K hK => ?_) (fun x5 hc_x5 he_x5 K hK => ?_)
      ·have hqx0 : Below w3.heap.size w3 x0 := bel_trans hqv4 he_x0
       have z0 : x0.cell? ⟨w2.heap.size, 0, none⟩ = some (.slice o i co) := by simpa using (HBO3.out.below hqx0).cell 0
       have zl := (HBO3.out.below hqx0).lt
       go_simp
       refine hK _ _ hc_x0 ?_
       clear hK K z0 zl
       (try simp only [sq1, sq2, sq3])
       refine rgK_one (i := 5) (by kernel_rfl) rfl rfl (fun x5 hc_x5 he_x5 K hK => ?_)
       have hqx5 : Below w3.heap.size w3 x5 := bel_trans hqx0 he_x5
       go_simp
       refine hK _ _ (Blk.alloc hc_x5 _) ?_
       clear hK K
       (try simp only [sq1, sq2, sq3])
       have hnx5 : Rd (x5.alloc (.cells #[.int .i64 tv] 3)) (some ⟨x5.heap.size, 0, none⟩) (vI [tv]) := rd_newI _ _ _
       have hqa : Below w3.heap.size w3 (x5.alloc (.cells #[.int .i64 tv] 3)) := bel_alloc hqx5 _
       refine rgK_one (i := 6) (by kernel_rfl) rfl rfl (fun x6 hc_x6 he_x6 K hK => ?_)
       have hq6 : Below w3.heap.size w3 x6 := bel_trans hqa he_x6
       refine wpN _ _ _ rfl (w2.heap.size + 1) o i co ((l.take i).map fun x => tmV n0 rows x k') rfl (own_keep HOW.out (bel_trans HB3.out hq6)) (some ⟨x5.heap.size, 0, none⟩) 1 1 [tv] rfl (hnx5.below he_x6) rfl (by omega) (by have h1 := HB3.out.size; have h2 := hq6.size; omega) ?_
       intro D6 c6 w6 ho6 hg6 hat6
       have hbo6 := (HBO3.out.below hq6).grown hg6 (fun e => by have := (own_lt HOW.out _ e.symm).1; omega)
       refine hK _ _ (Blk.grown hc_x6 hg6 (fun e => by have := (own_lt HOW.out _ e.symm).1; omega)) ?_
       clear hK K
       (try simp only [sq1, sq2, sq3])
       (try simp only [Act.put])
       (try simp only [sq1, sq2, sq3])
       refine rgK_one (i := 7) (by kernel_rfl) rfl rfl (fun x7 hc_x7 he_x7 K hK => ?_)
       have hbo7 := hbo6.below he_x7
       have z0 : x7.cell? ⟨w2.heap.size, 0, none⟩ = some (.slice o i co) := by simpa using hbo7.cell 0
       have zf : x7.frozen? ⟨w2.heap.size, 0, none⟩ = false := hbo7.frozen 0
       have zl := hbo7.lt
       go_simp
       refine hK _ _ (Blk.far hc_x7 (p := ⟨w2.heap.size, 0, none⟩) (by show w.heap.size ≠ w2.heap.size; omega) _) ?_
       clear hK K
       (try simp only [sq1, sq2, sq3])
       refine ⟨by kernel_rfl, fun wz hcz hez => NoPanic.normal ?_⟩
       have e1 : i + 1 = i + 1 := rfl
       have HBOZ := Lib.hid ((hbo7.set_ 0 (.slice D6 (i + 1) c6)).below hez)
       have HOWZ := Lib.hid (own_keep (own_set (own_keep ho6 he_x7) (p := ⟨w2.heap.size, 0, none⟩) (fun g e => by have h9 := (own_lt ho6 g e).1; show g ≠ w2.heap.size; omega) (.slice D6 (i + 1) c6)) hez)
       have hbz : Below w.heap.size w wz := bel_trans (bel_set (bel_trans (bel_app (bel_trans HB.out (bel_trans HB3.out hq6)) hg6 (fun g e => by have := (own_lt HOW.out g e).1; omega)) he_x7) (by show w.heap.size ≤ w2.heap.size; omega)) hez
       have HBZ := Lib.hid hbz
       have HSZ := Lib.hid (show w2.heap.size + 1 ≤ wz.heap.size by have h1 := hez.size; have h2 := he_x7.size; have h3 := hg6.size; have h4 := hq6.size; have h5 := HB3.out.size; simp only [World.size_setCell] at h1; omega)
       have HCZ := Lib.hid hcz
       clear hcz hez hbz hbo6 hbo7 z0 zf zl
       go_wp2_with fail
       exact ⟨⟨i + 1, c6, D6, by omega, by go_num, HBOZ.out, by rw [HMAP.out]; exact HOWZ.out, HAL2.out, HCZ.out, HBZ.out, HSZ.out⟩, by simp [intOf]; omega⟩
      ·have hqx5 : Below w3.heap.size w3 x5 := bel_trans hqv4 he_x5
       go_simp
       refine hK _ _ (Blk.alloc hc_x5 _) ?_
       clear hK K
       (try simp only [sq1, sq2, sq3])
       have hnx5 : Rd (x5.alloc (.cells #[.int .i64 tv] 3)) (some ⟨x5.heap.size, 0, none⟩) (vI [tv]) := rd_newI _ _ _
       have hqa : Below w3.heap.size w3 (x5.alloc (.cells #[.int .i64 tv] 3)) := bel_alloc hqx5 _
       refine rgK_one (i := 0) (by kernel_rfl) rfl rfl (fun x0 hc_x0 he_x0 K hK => ?_)
       have hqx0 : Below w3.heap.size w3 x0 := bel_trans hqa he_x0
       have z0 : x0.cell? ⟨w2.heap.size, 0, none⟩ = some (.slice o i co) := by simpa using (HBO3.out.below hqx0).cell 0
       have zl := (HBO3.out.below hqx0).lt
       go_simp
       refine hK _ _ hc_x0 ?_
       clear hK K z0 zl
       (try simp only [sq1, sq2, sq3])
       refine rgK_one (i := 6) (by kernel_rfl) rfl rfl (fun x6 hc_x6 he_x6 K hK => ?_)
       have hq6 : Below w3.heap.size w3 x6 := bel_trans hqx0 he_x6
       refine wpN _ _ _ rfl (w2.heap.size + 1) o i co ((l.take i).map fun x => tmV n0 rows x k') rfl (own_keep HOW.out (bel_trans HB3.out hq6)) (some ⟨x5.heap.size, 0, none⟩) 1 1 [tv] rfl ((hnx5.below he_x0).below he_x6) rfl (by omega) (by have h1 := HB3.out.size; have h2 := hq6.size; omega) ?_
       intro D6 c6 w6 ho6 hg6 hat6
       have hbo6 := (HBO3.out.below hq6).grown hg6 (fun e => by have := (own_lt HOW.out _ e.symm).1; omega)
       refine hK _ _ (Blk.grown hc_x6 hg6 (fun e => by have := (own_lt HOW.out _ e.symm).1; omega)) ?_
       clear hK K
       (try simp only [sq1, sq2, sq3])
       (try simp only [Act.put])
       (try simp only [sq1, sq2, sq3])
       refine rgK_one (i := 7) (by kernel_rfl) rfl rfl (fun x7 hc_x7 he_x7 K hK => ?_)
       have hbo7 := hbo6.below he_x7
       have z0 : x7.cell? ⟨w2.heap.size, 0, none⟩ = some (.slice o i co) := by simpa using hbo7.cell 0
       have zf : x7.frozen? ⟨w2.heap.size, 0, none⟩ = false := hbo7.frozen 0
       have zl := hbo7.lt
       go_simp
       refine hK _ _ (Blk.far hc_x7 (p := ⟨w2.heap.size, 0, none⟩) (by show w.heap.size ≠ w2.heap.size; omega) _) ?_
       clear hK K
       (try simp only [sq1, sq2, sq3])
       refine ⟨by kernel_rfl, fun wz hcz hez => NoPanic.normal ?_⟩
       have e1 : i + 1 = i + 1 := rfl
       have HBOZ := Lib.hid ((hbo7.set_ 0 (.slice D6 (i + 1) c6)).below hez)
       have HOWZ := Lib.hid (own_keep (own_set (own_keep ho6 he_x7) (p := ⟨w2.heap.size, 0, none⟩) (fun g e => by have h9 := (own_lt ho6 g e).1; show g ≠ w2.heap.size; omega) (.slice D6 (i + 1) c6)) hez)
       have hbz : Below w.heap.size w wz := bel_trans (bel_set (bel_trans (bel_app (bel_trans HB.out (bel_trans HB3.out hq6)) hg6 (fun g e => by have := (own_lt HOW.out g e).1; omega)) he_x7) (by show w.heap.size ≤ w2.heap.size; omega)) hez
       have HBZ := Lib.hid hbz
       have HSZ := Lib.hid (show w2.heap.size + 1 ≤ wz.heap.size by have h1 := hez.size; have h2 := he_x7.size; have h3 := hg6.size; have h4 := hq6.size; have h5 := HB3.out.size; simp only [World.size_setCell] at h1; omega)
       have HCZ := Lib.hid hcz
       clear hcz hez hbz hbo6 hbo7 z0 zf zl
       go_wp2_with fail
       exact ⟨⟨i + 1, c6, D6, by omega, by go_num, HBOZ.out, by rw [HMAP.out]; exact HOWZ.out, HAL2.out, HCZ.out, HBZ.out, HSZ.out⟩, by simp [intOf]; omega⟩
   ·obtain rfl : i = k := by omega
    have hi1 : ¬ (i : Int) < (i : Int) := by omega
    have HTL : Hid (l.take i = l) := List.take_of_length_le (by rw [HLI.out]; exact Nat.le_refl _)
    have hall := HALL.out
    have hown := HOW.out
    rw [HTL.out] at hall hown
    have hto : ttOk n0 rows l k' = true := by unfold ttOk; rw [HA.out, List.all_eq_true.2 hall]; rfl
    have htv : ttV n0 rows l k' = StM.stS keyT (l.map fun x => tmV n0 rows x k') := by unfold ttV; rw [hto]; rfl
    obtain ⟨M, hM⟩ : ∃ M, l.map (fun x => tmV n0 rows x k') = M := ⟨_, rfl⟩
    rw [hM] at htv hown
    have hMl : M.length = i := by rw [← hM, List.length_map, HLI.out]
    have hMr : ∀ x ∈ M, 0 ≤ x ∧ x < 2 ^ 62 := fun x hx => by
     rw [← hM] at hx
     obtain ⟨y, _, rfl⟩ := List.mem_map.1 hx
     exact tmV_lt
    have hTr := HT.out.below HB.out
    have hsz0 := HB2.out.size
    have htbl := HTBL.out
    have HSO := Lib.hid (sortT (w2.heap.size + 1) w2.heap.size i co o M wr hMl (by omega) hown HBOW.out (by omega) hTr (by omega) hMr)
    have HTV := Lib.hid htv
    have HTO := Lib.hid hto
    clear hall hown hto htv hM hMl hMr hTr htbl
    go_wp2_with fail
    refine HSO.out.mono ?_
    rintro e w5 ⟨rfl, ho5, hb5, hg5⟩
    have q0 : w5.cell? ⟨w2.heap.size, 0, none⟩ = some (.slice o i co) := by simpa using hb5.cell 0
    have ql := hb5.lt
    have HO5 := Lib.hid (own_base ho5 (show w.heap.size ≤ w2.heap.size + 1 by omega))
    have HB5 := Lib.hid (bel_app HB.out hg5 (fun g e => by have := (own_lt HOW.out g e).1; omega))
    clear ho5 hb5 hg5 o0 ol of_
    go_wp2_with fail
    go_ret2
    exact ⟨o, i, co, by rw [HTO.out]; rfl, by rw [HTV.out]; exact HO5.out, HB5.out⟩
end

section
structure PzFr (b : Nat) (o : Option Addr) (w w' : World) (o' : Option Addr) : Prop where
 os : w'.os = w.os
 tape : w'.tape = w.tape
 output : w'.output = w.output
 size : w.heap.size ≤ w'.heap.size
 block : ∀ k, k < w.heap.size → k ≠ b → some k ≠ ob o → w'.heap[k]? = w.heap[k]?
 row : ∀ g, ob o' = some g → ob o = some g ∨ w.heap.size ≤ g
section
variable {b : Nat} {o o1 o2 : Option Addr} {w w1 w2 : World}
theorem PzFr.refl (b : Nat) (o : Option Addr) (w : World) : PzFr b o w w o := ⟨rfl, rfl, rfl, Nat.le_refl _, fun _ _ _ _ => rfl, fun g h => .inl h⟩
theorem PzFr.of_below (h : Below w.heap.size w w1) : PzFr b o w w1 o := ⟨h.os, h.tape, h.output, h.size, fun k hk _ _ => h.block k hk, fun g h => .inl h⟩
theorem PzFr.trans (h : PzFr b o w w1 o1) (k : PzFr b o1 w1 w2 o2) : PzFr b o w w2 o2 :=
 ⟨k.os.trans h.os, k.tape.trans h.tape, k.output.trans h.output, Nat.le_trans h.size k.size,
  fun i hi hb ho => (k.block i (Nat.lt_of_lt_of_le hi h.size) hb (fun e => by rcases h.row i e.symm with h1 | h1; exact ho h1.symm; omega)).trans (h.block i hi hb ho),
  fun g hg => by rcases k.row g hg with h1 | h1; exact h.row g h1; exact .inr (Nat.le_trans h.size h1)⟩
theorem PzFr.rd {A : Option Addr} {vs : List Value} (h : PzFr b o w w1 o1) (hr : Rd w A vs) (hA : ∀ g, ob A = some g → g ≠ b ∧ ob o ≠ some g) : Rd w1 A vs := by
 rcases hr with hr | ⟨g, off, rfl, hr⟩
 ·exact .inl hr
 ·refine .inr ⟨g, off, rfl, fun j u hu => ?_⟩
  have h2 := hA g rfl
  have h3 := hr j u hu
  exact (World.cell?_of_block (w := w) (h.block g (World.block_lt_of_cell? w _ h3) h2.1 (fun e => h2.2 e.symm))).trans h3
theorem PzFr.blk {g : Nat} {t : TypeId} {cs : Array Value} (h : PzFr b o w w1 o1) (hg : Blk w g t cs) (h1 : g ≠ b) (h2 : ob o ≠ some g) : Blk w1 g t cs :=
 (h.block g hg.lt h1 (fun e => h2 e.symm)).trans hg
end
theorem Own2.push_old {base : Nat} {w w3 : World} {B B' : Option Addr} {n c c' g1 nf cf : Nat} {hs : List H} {F : List (List Int)} {f : List Int}
  (h : Own2 base w B n c hs F) (hf : w.ownsRow base 3 1 (.slice (some ⟨g1, 0, none⟩) nf cf) nf (vI f)) (h1 : ob B ≠ some g1) (h2 : away hs g1)
  (ho : w3.ownsRow base 24 1 (.slice B' (n + 1) c') (n + 1) (vS (hs ++ [(some ⟨g1, 0, none⟩, nf, cf)]))) (hg : w.grownBy w3 (ob B)) (ha : ∀ g, ob B' = some g → ob B = some g ∨ w.heap.size ≤ g) :
  Own2 base w3 B' (n + 1) c' (hs ++ [(some ⟨g1, 0, none⟩, nf, cf)]) (F ++ [f]) := by
 have hold : ∀ k (a : k < hs.length) g, ob hs[k].1 = some g → g < w.heap.size := fun k a g e => (own_lt (h.row k a (h.len ▸ a)) g e).2
 have hf1 := (own_lt hf g1 rfl).2
 refine ⟨ho, by simp [h.len], fun k a b => ?_, fun g e => ?_, ?_⟩
 ·by_cases hk : k < hs.length
  ·have hk2 : k < F.length := h.len ▸ hk
   simp only [List.getElem_append_left hk, List.getElem_append_left hk2]
   exact own_kept (h.row k hk hk2) hg fun g e r => h.off g r _ (List.getElem_mem hk) e
  ·have e : k = hs.length := by simp at a; omega
   subst e
   have e3 : (hs ++ [((some ⟨g1, 0, none⟩, nf, cf) : H)])[hs.length]'a = (some ⟨g1, 0, none⟩, nf, cf) := by simp
   have e4 : (F ++ [f])[hs.length]'b = f := by rw [List.getElem_append_right (Nat.le_of_eq h.len.symm)]; simp
   rw [e3, e4]
   exact own_kept hf hg fun g e r => by simp only [ob, Option.map_some, Option.some.injEq] at e; subst e; exact h1 r
 ·intro x hx
  rcases List.mem_append.1 hx with hx | hx
  ·rcases ha g e with k1 | k1
   ·exact h.off g k1 x hx
   ·intro r
    obtain ⟨k, hk, rfl⟩ := List.mem_iff_getElem.1 hx
    have := hold k hk g r
    omega
  ·simp only [List.mem_singleton] at hx
   subst hx
   intro r
   simp only [ob, Option.map_some, Option.some.injEq] at r
   subst r
   rcases ha _ e with k1 | k1
   ·exact h1 k1
   ·omega
 ·have hn1 : ∀ i (a : i < hs.length) g, ob hs[i].1 = some g → ob (some (⟨g1, 0, none⟩ : Addr)) ≠ some g := fun i a g e r => by
   simp only [ob, Option.map_some, Option.some.injEq] at r
   subst r
   exact h2 _ (List.getElem_mem a) e
  intro i j a b hij g e
  by_cases hi : i < hs.length
  ·by_cases hj : j < hs.length
   ·simp only [List.getElem_append_left hi] at e
    simp only [List.getElem_append_left hj]
    exact h.sep i j hi hj hij g e
   ·have ej : j = hs.length := by simp at b; omega
    subst ej
    simp only [List.getElem_append_left hi] at e
    simp only [List.getElem_append_right (Nat.le_refl _), Nat.sub_self, List.getElem_cons_zero]
    exact hn1 i hi g e
  ·have ei : i = hs.length := by simp at a; omega
   subst ei
   have hj : j < hs.length := by simp at b; omega
   simp only [List.getElem_append_right (Nat.le_refl _), Nat.sub_self, List.getElem_cons_zero] at e
   simp only [List.getElem_append_left hj]
   exact fun r => hn1 j hj g r e
theorem own_set_far {w : World} {base e n c size b : Nat} {A : Option Addr} {xs : List Value} {u : Value} (h : w.ownsRow base e size (.slice A n c) n xs) (hb : b < base) : (w.setCell ⟨b, 0, none⟩ u).ownsRow base e size (.slice A n c) n xs := by
 refine ⟨h.1, ?_⟩
 rcases h.2 with hn | ⟨g, cap, cur, hv, hg, hgg, rest⟩
 ·exact .inl hn
 ·exact .inr ⟨g, cap, cur, hv, hg, (Below.heap_setCell w _ u g (by show g ≠ b; omega)).trans hgg, rest⟩
theorem Own2.set_far {base : Nat} {w : World} {B : Option Addr} {n c b : Nat} {hs : List H} {F : List (List Int)} (h : Own2 base w B n c hs F) (u : Value) (hb : b < base) : Own2 base (w.setCell ⟨b, 0, none⟩ u) B n c hs F :=
 ⟨own_set_far h.own hb, h.len, fun k a c => own_set_far (h.row k a c) hb, h.off, h.sep⟩
theorem Own2.pushA {base : Nat} {w w3 : World} {B B' A1 : Option Addr} {n c c' nf cf : Nat} {hs : List H} {F : List (List Int)} {f : List Int}
  (h : Own2 base w B n c hs F) (hf : w.ownsRow base 3 1 (.slice A1 nf cf) nf (vI f)) (h1 : ∀ g, ob A1 = some g → ob B ≠ some g ∧ away hs g)
  (ho : w3.ownsRow base 24 1 (.slice B' (n + 1) c') (n + 1) (vS (hs ++ [(A1, nf, cf)]))) (hg : w.grownBy w3 (ob B)) (ha : ∀ g, ob B' = some g → ob B = some g ∨ w.heap.size ≤ g) :
  Own2 base w3 B' (n + 1) c' (hs ++ [(A1, nf, cf)]) (F ++ [f]) := by
 have hold : ∀ k (a : k < hs.length) g, ob hs[k].1 = some g → g < w.heap.size := fun k a g e => (own_lt (h.row k a (h.len ▸ a)) g e).2
 have hf1 := fun g e => (own_lt hf g e).2
 refine ⟨ho, by simp [h.len], fun k a b => ?_, fun g e => ?_, ?_⟩
 ·by_cases hk : k < hs.length
  ·have hk2 : k < F.length := h.len ▸ hk
   simp only [List.getElem_append_left hk, List.getElem_append_left hk2]
   exact own_kept (h.row k hk hk2) hg fun g e r => h.off g r _ (List.getElem_mem hk) e
  ·have e : k = hs.length := by simp at a; omega
   subst e
   have e3 : (hs ++ [((A1, nf, cf) : H)])[hs.length]'a = (A1, nf, cf) := by simp
   have e4 : (F ++ [f])[hs.length]'b = f := by rw [List.getElem_append_right (Nat.le_of_eq h.len.symm)]; simp
   rw [e3, e4]
   exact own_kept hf hg fun g e r => (h1 g e).1 r
 ·intro x hx
  rcases List.mem_append.1 hx with hx | hx
  ·rcases ha g e with k1 | k1
   ·exact h.off g k1 x hx
   ·intro r
    obtain ⟨k, hk, rfl⟩ := List.mem_iff_getElem.1 hx
    have := hold k hk g r
    omega
  ·simp only [List.mem_singleton] at hx
   subst hx
   intro r
   rcases ha _ e with k1 | k1
   ·exact (h1 g r).1 k1
   ·have := hf1 g r; omega
 ·have hn1 : ∀ i (a : i < hs.length) g, ob hs[i].1 = some g → ob A1 ≠ some g := fun i a g e r => (h1 g r).2 _ (List.getElem_mem a) e
  intro i j a b hij g e
  by_cases hi : i < hs.length
  ·by_cases hj : j < hs.length
   ·simp only [List.getElem_append_left hi] at e
    simp only [List.getElem_append_left hj]
    exact h.sep i j hi hj hij g e
   ·have ej : j = hs.length := by simp at b; omega
    subst ej
    simp only [List.getElem_append_left hi] at e
    simp only [List.getElem_append_right (Nat.le_refl _), Nat.sub_self, List.getElem_cons_zero]
    exact hn1 i hi g e
  ·have ei : i = hs.length := by simp at a; omega
   subst ei
   have hj : j < hs.length := by simp at b; omega
   simp only [List.getElem_append_right (Nat.le_refl _), Nat.sub_self, List.getElem_cons_zero] at e
   simp only [List.getElem_append_left hj]
   exact fun r => hn1 j hj g r e
end

section
def outA (L : List Int) (free most : Nat) (Out : List (List Int)) (l : List Int) : List (List Int) := Out ++ ((tilV L free).take (most - Out.length)).map (l ++ ·)
theorem outA_zero (L : List Int) {most : Nat} {Out : List (List Int)} (l : List Int) (h : Out.length < most) : outA L 0 most Out l = Out ++ [l] := by
 unfold outA
 rw [tilV_zero, List.take_of_length_le (by simp; omega)]
 simp
theorem outA_end {L : List Int} {free most : Nat} {Out : List (List Int)} {l : List Int} (h : (Out ++ (tilV L free).map (l ++ ·)).length < most) : Out ++ (tilV L free).map (l ++ ·) = outA L free most Out l := by
 unfold outA
 rw [List.take_of_length_le]
 rw [List.length_append, List.length_map] at h
 omega
theorem outA_all {L : List Int} {free most : Nat} {Out : List (List Int)} {l : List Int} (h : (outA L free most Out l).length < most) : outA L free most Out l = Out ++ (tilV L free).map (l ++ ·) := by
 unfold outA at h ⊢
 rw [List.length_append, List.length_map, List.length_take] at h
 rw [List.take_of_length_le (by omega)]
theorem cons_map (l : List Int) (m : Int) (T : List (List Int)) : (T.map (m :: ·)).map (l ++ ·) = T.map ((l ++ [m]) ++ ·) := by
 rw [List.map_map]
 apply List.map_congr_left
 intro x _
 simp
theorem outA_more {L : List Int} {f2 most : Nat} {Out X : List (List Int)} {l : List Int} {m : Int} (h : (outA L f2 most (Out ++ X.map (l ++ ·)) (l ++ [m])).length < most) :
  outA L f2 most (Out ++ X.map (l ++ ·)) (l ++ [m]) = Out ++ (X ++ (tilV L f2).map (m :: ·)).map (l ++ ·) := by
 rw [outA_all h, List.map_append, cons_map, List.append_assoc]
theorem outA_stop {L : List Int} {free f2 most : Nat} {Out X Z : List (List Int)} {l : List Int} {m : Int} (hV : tilV L free = X ++ ((tilV L f2).map (m :: ·) ++ Z)) (h0 : (Out ++ X.map (l ++ ·)).length < most)
  (h : ¬ (outA L f2 most (Out ++ X.map (l ++ ·)) (l ++ [m])).length < most) : outA L f2 most (Out ++ X.map (l ++ ·)) (l ++ [m]) = outA L free most Out l := by
 unfold outA at h ⊢
 rw [List.length_append, List.length_map, List.length_take] at h
 rw [List.length_append, List.length_map] at h0 h ⊢
 rw [hV, List.take_append, List.take_of_length_le (by omega : X.length ≤ most - Out.length), List.map_append, List.append_assoc, List.take_append_of_le_length (by rw [List.length_map]; omega), ← List.map_take, cons_map]
 congr 4
 omega
theorem outA_nil (L : List Int) (free most : Nat) : outA L free most [] [] = (tilV L free).take most := by
 unfold outA
 simp
theorem flat_splitT {α β : Type} {f : α → List β} {M : List α} {i : Nat} (h : i < M.length) : M.flatMap f = (M.take i).flatMap f ++ (f M[i] ++ (M.drop (i + 1)).flatMap f) := by
 have e : M = M.take i ++ (M[i] :: M.drop (i + 1)) := by rw [← List.drop_eq_getElem_cons h, List.take_append_drop]
 have h2 : M.flatMap f = (M.take i ++ (M[i] :: M.drop (i + 1))).flatMap f := by rw [← e]
 rw [h2, List.flatMap_append, List.flatMap_cons]
theorem flat_snocT {α β : Type} {f : α → List β} {M : List α} {i : Nat} (h : i < M.length) : (M.take (i + 1)).flatMap f = (M.take i).flatMap f ++ f M[i] := by
 rw [List.take_succ_eq_append_getElem h, List.flatMap_append]
 simp
end

section
def fB (L : List Int) : List (List Int) := (List.range 64).map fun k => bitL k L
def fB2 (L : List Int) (m : Int) (k : Nat) : List (List Int) := (List.range 64).map fun j => bitL j L ++ (if j < k ∧ m.toNat.testBit j = true then [m] else [])
theorem fB_len (L : List Int) : (fB L).length = 64 := by simp [fB]
theorem fB2_len (L : List Int) (m : Int) (k : Nat) : (fB2 L m k).length = 64 := by simp [fB2]
theorem fB_at (L : List Int) {k : Nat} (h : k < (fB L).length) : (fB L)[k] = bitL k L := by simp [fB]
theorem fB2_at (L : List Int) (m : Int) {k j : Nat} (h : j < (fB2 L m k).length) : (fB2 L m k)[j] = bitL j L ++ (if j < k ∧ m.toNat.testBit j = true then [m] else []) := by simp [fB2]
theorem fB2_zero (L : List Int) (m : Int) : fB2 L m 0 = fB L := by
 unfold fB2 fB
 congr 1
 funext j
 rw [if_neg (by omega), List.append_nil]
theorem fB2_no (L : List Int) (m : Int) {k : Nat} (h : m.toNat.testBit k = false) : fB2 L m (k + 1) = fB2 L m k := by
 unfold fB2
 congr 1
 funext j
 by_cases hj : j < k
 ·simp [hj, show j < k + 1 by omega]
 ·by_cases he : j = k
  ·subst he; simp [h]
  ·rw [if_neg (by omega), if_neg (by omega)]
theorem fB2_yes (L : List Int) (m : Int) {k : Nat} (hk : k < 64) (h : m.toNat.testBit k = true) : fB2 L m (k + 1) = (fB2 L m k).set k (bitL k L ++ [m]) := by
 apply List.ext_getElem
 ·rw [List.length_set, fB2_len, fB2_len]
 ·intro j h1 h2
  rw [List.getElem_set, fB2_at]
  by_cases he : k = j
  ·subst he
   rw [if_pos rfl, if_pos ⟨by omega, h⟩]
  ·rw [if_neg he, fB2_at]
   by_cases hj : j < k
   ·simp [hj, show j < k + 1 by omega]
   ·rw [if_neg (by omega), if_neg (by omega)]
theorem fB2_now (L : List Int) (m : Int) {k : Nat} (h : k < (fB2 L m k).length) : (fB2 L m k)[k] = bitL k L := by
 rw [fB2_at, if_neg (by omega), List.append_nil]
theorem fB2_end (L : List Int) (m : Int) {k : Nat} (h : m.toNat < 2 ^ k) : fB2 L m k = fB (L ++ [m]) := by
 unfold fB2 fB
 congr 1
 funext j
 rw [bitL_snoc]
 by_cases hb : m.toNat.testBit j = true
 ·have hj : j < k := by
   rcases Nat.lt_or_ge j k with h2 | h2
   ·exact h2
   ·rw [Nat.testBit_lt_two_pow (Nat.lt_of_lt_of_le h (Nat.pow_le_pow_right (by decide) h2))] at hb
    cases hb
  rw [if_pos ⟨hj, hb⟩, if_pos hb]
 ·rw [if_neg (fun h2 => hb h2.2), if_neg hb, List.append_nil]
def srC (hs : List H) (v t : Value) : List Value := vS hs ++ [v, t]
structure Srch (base gs : Nat) (w : World) (hs : List H) (F : List (List Int)) (v t : Value) : Prop where
 blk : Blk w gs 154 (srC hs v t).toArray
 hlen : hs.length = 64
 flen : F.length = 64
 row : ∀ k (a : k < hs.length) (b : k < F.length), w.ownsRow base 3 1 (.slice hs[k].1 hs[k].2.1 hs[k].2.2) hs[k].2.1 (vI F[k])
 low : gs < base
 sep : ∀ i j (a : i < hs.length) (b : j < hs.length), i ≠ j → ∀ g, ob hs[i].1 = some g → ob hs[j].1 ≠ some g
section
variable {base gs : Nat} {w w' : World} {hs : List H} {F : List (List Int)} {v t : Value}
theorem Srch.below (h : Srch base gs w hs F v t) (hb : Below w.heap.size w w') : Srch base gs w' hs F v t :=
 ⟨h.blk.below hb, h.hlen, h.flen, fun k a b => own_keep (h.row k a b) hb, h.low, h.sep⟩
theorem Srch.cell (h : Srch base gs w hs F v t) {k : Nat} (hk : k < hs.length) : w.cell? ⟨gs, k, none⟩ = some (.slice hs[k].1 hs[k].2.1 hs[k].2.2) := by
 rw [h.blk.cell k]
 unfold srC
 rw [List.getElem?_toArray, List.getElem?_append_left (by rw [vS_length]; exact hk)]
 simp [vS, hd, hk]
theorem Srch.cellV (h : Srch base gs w hs F v t) : w.cell? ⟨gs, 64, none⟩ = some v ∧ w.cell? ⟨gs, 65, none⟩ = some t := by
 rw [h.blk.cell 64, h.blk.cell 65]
 unfold srC
 rw [List.getElem?_toArray, List.getElem?_toArray, List.getElem?_append_right (by rw [vS_length, h.hlen]; omega), List.getElem?_append_right (by rw [vS_length, h.hlen]; omega), vS_length, h.hlen]
 exact ⟨rfl, rfl⟩
theorem Srch.rlen (h : Srch base gs w hs F v t) {k : Nat} (a : k < hs.length) (b : k < F.length) : F[k].length = hs[k].2.1 := by have := own_len (h.row k a b); rw [vI_length] at this; omega
theorem srC_set (hs : List H) (v t : Value) {k : Nat} (hk : k < hs.length) (h : H) : (srC hs v t).toArray.setIfInBounds k (hd h) = (srC (hs.set k h) v t).toArray := by
 unfold srC
 rw [List.setIfInBounds_toArray, List.set_append_left _ _ (by rw [vS_length]; exact hk)]
 congr 2
 simp [vS, List.map_set]
theorem Srch.put (h : Srch base gs w hs F v t) {k : Nat} (a : k < hs.length) (b : k < F.length) {w2 : World} {A : Option Addr} {n c : Nat} {f : List Int}
  (ho : w2.ownsRow base 3 1 (.slice A n c) n (vI f)) (hg : w.grownBy w2 (ob hs[k].1)) (ha : ob A = ob hs[k].1 ∨ ∀ g, ob A = some g → w.heap.size ≤ g) :
  Srch base gs (w2.setCell ⟨gs, k, none⟩ (.slice A n c)) (hs.set k (A, n, c)) (F.set k f) v t := by
 have hlt : ∀ j (a : j < hs.length) g, ob hs[j].1 = some g → base ≤ g ∧ g < w.heap.size := fun j a g e => own_lt (h.row j a (by rw [h.flen, ← h.hlen]; exact a)) g e
 have hfar : ∀ {n c : Nat} {A : Option Addr} {xs : List Value}, w2.ownsRow base 3 1 (.slice A n c) n xs → ∀ u, (w2.setCell ⟨gs, k, none⟩ u).ownsRow base 3 1 (.slice A n c) n xs := fun ho u => own_set ho (fun g e => by have := (own_lt ho g e).1; have := h.low; show g ≠ gs; omega) u
 refine ⟨?_, by rw [List.length_set]; exact h.hlen, by rw [List.length_set]; exact h.flen, fun j aj bj => ?_, h.low, fun i j ai bj hij g e => ?_⟩
 ·rw [← srC_set hs v t a (A, n, c)]
  exact (h.blk.grown hg (fun e => by have := (hlt k a gs e.symm).1; have := h.low; omega)).set_ k _
 ·by_cases he : k = j
  ·subst he
   simp only [List.getElem_set_self]
   exact hfar ho _
  ·simp only [List.getElem_set_ne he]
   rw [List.length_set] at aj bj
   exact hfar (own_kept (h.row j aj bj) hg (fun g e r => h.sep j k aj a (Ne.symm he) g e r)) _
 ·rw [List.length_set] at ai bj
  by_cases hi : k = i
  ·subst hi
   simp only [List.getElem_set_self] at e
   simp only [List.getElem_set_ne hij]
   intro r
   rcases ha with ha | ha
   ·rw [ha] at e
    exact h.sep k j ai bj hij g e r
   ·have h1 := ha g e
    have h2 := (hlt j bj g r).2
    omega
  ·simp only [List.getElem_set_ne hi] at e
   by_cases hj : k = j
   ·subst hj
    simp only [List.getElem_set_self]
    intro r
    rcases ha with ha | ha
    ·rw [ha] at r
     exact h.sep i k ai bj hij g e r
    ·have h1 := ha g r
     have h2 := (hlt i ai g e).2
     omega
   ·simp only [List.getElem_set_ne hj]
    exact h.sep i j ai bj hij g e
end
end

section
attribute [local go_sem ↓] Go.wp_at_zero Go.wp_at_succ
def RetPut (w : World) (o : Option (List Int)) (e : Ending) (w' : World) : Prop :=
 ∃ g k c, e = .returned (.tuple #[.slice (some ⟨g, 0, none⟩) k c, .bool o.isSome]) ∧ w'.ownsRow w.heap.size 3 1 (.slice (some ⟨g, 0, none⟩) k c) k (vI (putP (o.getD []))) ∧ Below w.heap.size w w'
def covG (L : List Int) (n left low : Nat) (m : Int) : Option (List Int) := if m.toNat.testBit low then (covP L n (left - (left &&& m.toNat))).map (m :: ·) else none
end

section
attribute [local go_sem ↓] Go.wp_at_zero Go.wp_at_succ
def RetSr (w : World) (L : List Int) (v : Value) (e : Ending) (w' : World) : Prop :=
 ∃ gs hs, e = .returned (.pointer (some ⟨gs, 0, none⟩)) ∧ Srch (gs + 1) gs w' hs (fB L) v .nilFunc ∧ w.heap.size ≤ gs ∧ Below w.heap.size w w'
theorem Srch.fresh (w : World) (v t : Value) : Srch (w.heap.size + 1) w.heap.size (w.alloc (.cells (srC (List.replicate 64 (Option.none, 0, 0)) v t).toArray 154)) (List.replicate 64 (Option.none, 0, 0)) (fB []) v t := by
 refine ⟨Blk.new _ _ _, by simp, fB_len _, fun k a b => ?_, Nat.lt_succ_self _, fun i j a b hij g e => ?_⟩
 ·rw [List.getElem_replicate, fB_at]
  exact own_nil _ _ _ _
 ·rw [List.getElem_replicate] at e
  cases e
end

section
attribute [local go_sem ↓] Go.wp_at_zero Go.wp_at_succ
theorem newSearch_f (fn : Fn) (cap : Array Value) (A : Option Addr) (q c : Nat) (L : List Int) (w : World) (hr : Rd w A (vI L)) (hl : L.length = q) (hq : q ≤ 1048576) (hM : Msk 36 L) :
  Calls Tryz.prog 129 #[.slice A q c, (.func fn #[] cap)] w (RetSr w L (.func fn #[] cap)) := by
 have hs0 := Srch.fresh w (.func fn #[] cap) .nilFunc
 have HS0 := Lib.hid hs0
 have HL := Lib.hid hl
 have HR := Lib.hid hr
 have HM := Lib.hid hM
 clear hs0 hl hr hM
 go_enter Tryz.func129, Tryz.ntmps129
 go_wp2_with fail
 go_loopw [14] (fun e14 wr => ∃ (i : Nat) (hs : List H), i ≤ q ∧ e14 = .int .i64 i ∧ Srch (w.heap.size + 1) w.heap.size wr hs (fB (L.take i)) (.func fn #[] cap) .nilFunc ∧ Below w.heap.size w wr) (fun e14 _ => q - (intOf e14).toNat)
 case atStart => exact ⟨0, _, Nat.zero_le _, rfl, HS0.out, bel_alloc (Below.refl _ _) _⟩
 case round =>
  clear HS0
  obtain ⟨i, hs, hi, rfl, hS, hb⟩ := hrel
  have HS := Lib.hid hS
  have HB := Lib.hid hb
  clear hS hb
  by_cases hlt : i < q
  ·have hi0 : (0 : Int) ≤ (i : Int) := by omega
   have hi1 : (i : Int) < (q : Int) := by omega
   have hil : i < L.length := by rw [HL.out]; exact hlt
   obtain ⟨g, off, hA, hg, d1⟩ := RdI.at_ (HR.out.below HB.out) hil
   obtain ⟨m, hm, hm36⟩ := HM.out _ (List.getElem_mem hil)
   rw [hm] at d1
   have hst : L.take (i + 1) = L.take i ++ [(m : Int)] := by rw [List.take_succ_eq_append_getElem hil, hm]
   obtain ⟨L0, hL0⟩ : ∃ L0, L.take i = L0 := ⟨_, rfl⟩
   have hL0l : L0.length ≤ 1048576 := by rw [← hL0, List.length_take]; omega
   rw [hL0] at HS hst
   have HST := Lib.hid hst
   have HM36 := Lib.hid hm36
   subst hA
   clear hst hm hL0 hm36
   go_wp2_with fail
   go_loopw [8] (fun e8 wr => ∃ (k : Nat) (hs : List H), k ≤ 36 ∧ e8 = .int .i64 k ∧ Srch (w.heap.size + 1) w.heap.size wr hs (fB2 L0 (m : Int) k) (.func fn #[] cap) .nilFunc ∧ Below w.heap.size w wr) (fun e8 _ => 36 - (intOf e8).toNat)
   case atStart => exact ⟨0, hs, Nat.zero_le _, rfl, by rw [fB2_zero]; exact HS.out, HB.out⟩
   case round =>
    clear HS HB d1 hg
    obtain ⟨k, hs, hk, rfl, hS, hb⟩ := hrel
    have HS := Lib.hid hS
    have HB := Lib.hid hb
    clear hS hb
    have hk0 : (0 : Int) ≤ (k : Int) := by omega
    have hk64 : (k : Int) ≤ 64 := by omega
    have hkl : (k : Int) < 64 := by omega
    have ek : IntKind.i64.wrap (k : Int) = (k : Int) := Go.IntWalk.i64_in _ (by omega)
    have hbit := bit_testP m k (by have := HM36.out; omega)
    obtain ⟨d, hd⟩ : ∃ d, m / 2 ^ k = d := ⟨_, rfl⟩
    have hdI : (m : Int) / 2 ^ k = (d : Int) := by rw [← hd]; simp
    rw [hdI] at hbit
    by_cases hd0 : d = 0
    ·have hltm : m < 2 ^ k := by
      rw [hd0] at hd
      rcases (Nat.div_eq_zero_iff).1 hd with h | h
      ·have := Nat.pow_pos (n := k) (show 0 < 2 by decide); omega
      ·exact h
     have HE := Lib.hid (fB2_end L0 (m : Int) (k := k) (by rw [Int.toNat_natCast]; exact hltm))
     have hne : ((d : Int) != 0) = false := by simp [hd0]
     clear hltm hd hd0 hbit
     go_wp2_with fail
     exact ⟨⟨i + 1, hs, by omega, by go_num, by rw [HST.out, ← HE.out]; exact HS.out, HB.out⟩, by simp [intOf]; omega⟩
    ·have hk36 : k < 36 := by
      rcases Nat.lt_or_ge k 36 with h | h
      ·exact h
      ·exfalso
       apply hd0
       rw [← hd]
       exact Nat.div_eq_of_lt (by rw [show k = 36 by omega]; exact HM36.out)
     have hne : ((d : Int) != 0) = true := by simp [hd0]
     clear hd hd0
     cases hbt : m.testBit k with
     | false =>
      rw [hbt] at hbit
      have HE := Lib.hid (fB2_no L0 (m : Int) (k := k) (by rw [Int.toNat_natCast]; exact hbt))
      clear hbt
      go_wp2_with fail
      exact ⟨⟨k + 1, hs, by omega, by go_num, by rw [HE.out]; exact HS.out, HB.out⟩, by simp [intOf]; omega⟩
     | true =>
      rw [hbt] at hbit
      have HE := Lib.hid (fB2_yes L0 (m : Int) (k := k) (by omega) (by rw [Int.toNat_natCast]; exact hbt))
      have hkh : k < hs.length := by rw [HS.out.hlen]; omega
      have hkf : k < (fB2 L0 (m : Int) k).length := by rw [fB2_len]; omega
      have d0 := HS.out.cell hkh
      have o0 := HS.out.row k hkh hkf
      rw [fB2_now] at o0
      have hrl : (bitL k L0).length = hs[k].2.1 := by have := own_len o0; rw [vI_length] at this; omega
      have hrl2 := bitL_len k L0
      obtain ⟨D, hD⟩ : ∃ D, hs[k].1 = D := ⟨_, rfl⟩
      obtain ⟨nn, hnn⟩ : ∃ nn, hs[k].2.1 = nn := ⟨_, rfl⟩
      obtain ⟨cc, hcc⟩ : ∃ cc, hs[k].2.2 = cc := ⟨_, rfl⟩
      rw [hD, hnn, hcc] at d0 o0
      rw [hnn] at hrl
      have f0 := HS.out.blk.frozen k
      have l0 := HS.out.blk.lt
      have HO := Lib.hid o0
      have HD := Lib.hid hD
      have HKH := Lib.hid hkh
      have HKF := Lib.hid hkf
      have hnn2 : nn ≤ 1048576 := by omega
      clear hbt o0 hD hnn hcc hrl hrl2
      go_wp2_with fail
      go_region_law ((refine step_appI rfl (.tmp 36) (.tmp 38) rfl (w.heap.size + 1) D nn cc (bitL k L0) (by simp [Act.eval]) (own_keep HO.out (bel_alloc (bel_drew (Below.refl _ _)) _)) (some ⟨wr.heap.size, 0, none⟩) 1 1 [(m : Int)] (by simp [Act.eval]) (rd_newI _ _ _) rfl (by omega) (by have := HB.out.size; simp; omega) ?_); intro D8 c8 w8 ho8 hg8 hat8; have HO8 := Lib.hid ho8; have HG8 := Lib.hid hg8; have HAT8 := Lib.hid hat8; clear ho8 hg8 hat8; have HB8 := Lib.hid ((HS.out.blk.below (bel_alloc (bel_drew (Below.refl _ _)) _)).grown HG8.out (fun e => by have := (own_lt HO.out _ e.symm).1; omega)); have d8 : w8.cell? ⟨w.heap.size, k, none⟩ = some (.slice D nn cc) := keep_grown HG8.out (keep_alloc (keep_drew d0)) (fun e => by have h9 := (own_lt HO.out _ e.symm).1; exact absurd h9 (Nat.not_succ_le_self _)); have f8 : w8.frozen? ⟨w.heap.size, k, none⟩ = false := HB8.out.frozen k; have l8 : w.heap.size < w8.heap.size := HB8.out.lt)
      all_goals
       have hP := (HS.out.below (bel_alloc (bel_drew (Below.refl _ _)) (.cells #[.int .i64 (m : Int)] 3))).put hkh hkf HO8.out (by rw [HD.out]; exact HG8.out) (by rw [HD.out]; exact at_or HAT8.out (Nat.le_refl _))
       rw [← HE.out] at hP
       have hb8 : Below w.heap.size w (w8.setCell ⟨w.heap.size, k, none⟩ (.slice D8 (nn + 1) c8)) := bel_set (bel_app (bel_trans HB.out (bel_alloc (bel_drew (Below.refl _ _)) _)) HG8.out (fun g9 e9 => by have := (own_lt HO.out g9 e9).1; omega)) (Nat.le_refl _)
       have HP := Lib.hid hP
       have HB9 := Lib.hid hb8
       clear hP hb8
       go_wp2_with fail
       exact ⟨⟨k + 1, _, by omega, by go_num, HP.out, HB9.out⟩, by simp [intOf]; omega⟩
  ·obtain rfl : i = q := by omega
   have hi1 : ¬ (i : Int) < (i : Int) := by omega
   have hE : L.take i = L := List.take_of_length_le (by rw [HL.out]; exact Nat.le_refl _)
   have HE := Lib.hid hE
   clear hE
   go_wp2_with fail
   go_ret
   exact ⟨_, hs, rfl, by have := HS.out; rwa [HE.out] at this, Nat.le_refl _, HB.out⟩
end

section
attribute [local go_sem ↓] Go.wp_at_zero Go.wp_at_succ
def FaPost (b s0 most : Nat) (o : Option Addr) (w : World) (G : List (List Int)) (e : Ending) (w' : World) : Prop :=
 e = .returned (.bool (decide (G.length < most))) ∧ ∃ o' co' ho', Blk w' b 38 #[.slice o' G.length co'] ∧ Own2 s0 w' o' G.length co' ho' G ∧ PzFr b o w w' o'
theorem told_i (b bm s0 m co nl cl most : Nat) (o A : Option Addr) (ho : List H) (Out : List (List Int)) (l : List Int) (w : World) (hb : Blk w b 38 #[.slice o m co]) (hbm : Blk w bm 3 #[.int .i64 (most : Int)]) (hO : Own2 s0 w o m co ho Out) (hl : w.ownsRow s0 3 1 (.slice A nl cl) nl (vI l))
  (h1 : ∀ g, ob A = some g → ob o ≠ some g ∧ away ho g) (hne : bm ≠ b) (hbb : b < s0) (hbms : bm < s0) (hm : m < most) (hmost : most ≤ 1000) (hs0 : s0 ≤ w.heap.size) :
  Calls Tryz.prog 130 #[.slice A nl cl, .pointer (some ⟨b, 0, none⟩), .pointer (some ⟨bm, 0, none⟩)] w (FaPost b s0 most o w (Out ++ [l])) := by
 have d0 : w.cell? ⟨b, 0, none⟩ = some (.slice o m co) := by simpa using hb.cell 0
 have hbl := hb.lt
 have HB := Lib.hid hb
 have HBM := Lib.hid hbm
 have HO := Lib.hid hO
 have HL := Lib.hid hl
 have H1 := Lib.hid h1
 have HF := Lib.hid hO.flen
 clear hb hbm hO hl h1
 go_enter Tryz.func130, Tryz.ntmps130
 have hbo : ∀ g, ob o = some g → g ≠ b ∧ g ≠ bm := fun g hg => by have := (own_lt HO.out.own g hg).1; omega
 have HBO := Lib.hid hbo
 clear hbo
 go_wp2_with (at_builtin; go_must (refine app_S _ rfl _ _ rfl s0 _ _ _ ho rfl (HO.out.own.alloc _) _ _ _ [(A, nl, cl)] rfl (rd_newS _ _ _) rfl (by omega) (by simp; omega) ?_); intro D6 c6 w6 ho6 hg6 hat6; have HO6 := Lib.hid ho6; have HG6 := Lib.hid hg6; have HAT6 := Lib.hid hat6; clear ho6 hg6 hat6; have HB6 := Lib.hid ((HB.out.alloc (.cells #[.slice A nl cl] 24)).grown HG6.out (fun e => (HBO.out b e.symm).1 rfl)); have HM6 := Lib.hid ((HBM.out.alloc (.cells #[.slice A nl cl] 24)).grown HG6.out (fun e => (HBO.out bm e.symm).2 rfl)); have d6 : w6.cell? ⟨b, 0, none⟩ = some (.slice o m co) := (by simpa using HB6.out.cell 0); have f6 : w6.frozen? ⟨b, 0, none⟩ = false := HB6.out.frozen 0; have l6 : b < w6.heap.size := HB6.out.lt; have HC6 := Lib.hid (HB6.out.set_ 0 (.slice D6 (m + 1) c6)); have c6c : (w6.setCell ⟨b, 0, none⟩ (.slice D6 (m + 1) c6)).cell? ⟨b, 0, none⟩ = some (.slice D6 (m + 1) c6) := (by simpa using HC6.out.cell 0); have m6 : (w6.setCell ⟨b, 0, none⟩ (.slice D6 (m + 1) c6)).cell? ⟨bm, 0, none⟩ = some (.int .i64 (most : Int)) := keep_grown (grown_set (p := ⟨b, 0, none⟩) (World.grownBy.refl w6 (some b)) rfl _) (by simpa using HM6.out.cell 0) (fun e => hne (by injection e)); have lm6 : bm < (w6.setCell ⟨b, 0, none⟩ (.slice D6 (m + 1) c6)).heap.size := World.block_lt_of_cell? _ _ m6)
 go_ret
 have hlen : (Out ++ [l]).length = m + 1 := by rw [List.length_append, HF.out]; rfl
 have hsz6 : w.heap.size + 1 ≤ w6.heap.size := by have := HG6.out.size; simpa using this
 have hrow : ∀ g, ob D6 = some g → ob o = some g ∨ w.heap.size ≤ g := fun g hg => by
  rcases HAT6.out with e | e
  ·exact .inl (e ▸ hg)
  ·rw [e] at hg
   injection hg with hg
   rw [World.size_alloc] at hg
   exact .inr (by omega)
 have hg2 : w.grownBy w6 (ob o) := ⟨HG6.out.os, HG6.out.tape, HG6.out.output, by omega, fun k hk hn => (HG6.out.block k (by simp; omega) hn).trans (Below.heap_alloc w _ k hk)⟩
 have hP := Own2.pushA HO.out HL.out H1.out HO6.out hg2 hrow
 have hP2 := hP.set_far (b := b) (.slice D6 (m + 1) c6) hbb
 refine ⟨by rw [hlen]; simp; omega, D6, c6, _, by rw [hlen]; exact HC6.out, by rw [hlen]; exact hP2, ⟨?_, ?_, ?_, ?_, fun k hk hkb hko => ?_, hrow⟩⟩
 ·exact HG6.out.os
 ·exact HG6.out.tape
 ·exact HG6.out.output
 ·simp; omega
 ·rw [← hg2.block k hk hko]
  exact Below.heap_setCell _ _ _ _ hkb
theorem own_blockT {w w' : World} {base e n c size : Nat} {A : Option Addr} {xs : List Value} (h : w.ownsRow base e size (.slice A n c) n xs) (hb : ∀ g, ob A = some g → w'.heap[g]? = w.heap[g]?) : w'.ownsRow base e size (.slice A n c) n xs := by
 refine ⟨h.1, ?_⟩
 rcases h.2 with hn | ⟨g, cap, cur, hv, hg, hgg, rest⟩
 ·exact .inl hn
 ·exact .inr ⟨g, cap, cur, hv, hg, (hb g (by injection hv with hA; subst hA; rfl)).trans hgg, rest⟩
theorem Srch.fr {base gs b s0 : Nat} {o o' : Option Addr} {w w' : World} {hs : List H} {F : List (List Int)} {v t : Value} (h : Srch base gs w hs F v t) (hf : PzFr b o w w' o') (hbg : b < gs) (hgs : gs < s0) (hsl : ∀ x ∈ hs, ∀ g, ob x.1 = some g → g < s0) (ho : ∀ g, ob o = some g → s0 ≤ g) : Srch base gs w' hs F v t :=
 ⟨hf.blk h.blk (by omega) (fun e => by have := ho gs e; omega), h.hlen, h.flen, fun k a c => own_blockT (h.row k a c) (fun g e => by
   have h1 := (own_lt (h.row k a c) g e)
   have h2 := hsl _ (List.getElem_mem a) g e
   have h3 := h.low
   exact hf.block g h1.2 (by omega) (fun r => by have := ho g r.symm; omega)) , h.low, h.sep⟩
theorem tb_fr {b s0 : Nat} {o o' : Option Addr} {w w' : World} (h : Tb w) (hf : PzFr b o w w' o') (hb : 1 < b) (ho : ∀ g, ob o = some g → s0 ≤ g) (hs : b < s0) : Tb w' := fun j hj =>
 (World.cell?_of_block (w := w) (hf.block _ (World.block_lt_of_cell? w _ (h j hj)) (by show 1 ≠ b; omega) (fun e => by have h1 := ho 1 e.symm; omega))).trans (h j hj)
end

section
attribute [local go_sem ↓] Go.wp_at_zero Go.wp_at_succ
theorem copyInts_i (A : Option Addr) (n c : Nat) (xs : List Int) (w : World) (hr : Rd w A (vI xs)) (hl : xs.length = n) (hn : n ≤ 1099511627776) :
  Calls Tryz.prog 175 #[.slice A n c] w (RetS w 3 1 (vI xs)) := by
 have HL := Lib.hid hl
 clear hl
 go_enter Tryz.func175, Tryz.ntmps175
 go_wp2_with (at_builtin; go_must (refine app_I _ rfl _ _ rfl w.heap.size none 0 0 [] rfl (own_nil _ _ _ _) _ _ _ xs rfl hr HL.out (by omega) (by omega) ?_); intro A' c' w' hown' hg' hat'; simp only [Nat.zero_add, List.nil_append] at hown'; have HO := Lib.hid hown'; have HB := Lib.hid (bel_app (Below.refl w.heap.size w) hg' (fun g h => by cases h)); clear hown' hg' hat')
 go_ret
 exact ⟨_, _, _, rfl, HO.out, HB.out⟩
end

section
attribute [local go_sem ↓] Go.wp_at_zero Go.wp_at_succ
theorem pop_fallT {free m low : Nat} (hf : free < 2 ^ 36) (hin : m &&& free = m) (hb : m.testBit low = true) : pop (free - (free &&& m)) + 1 ≤ pop free := by
 have hk : ∀ k, m.testBit k = true → free.testBit k = true := fun k h => by
  have h2 := congrArg (fun x => x.testBit k) hin
  simp only [Nat.testBit_and, h, Bool.true_and] at h2
  exact h2
 have hlow : low < 64 := by
  rcases Nat.lt_or_ge low 64 with h | h
  ·exact h
  ·have h2 := hk low hb
   rw [Nat.testBit_lt_two_pow (Nat.lt_of_lt_of_le hf (Nat.pow_le_pow_right (by decide) (by omega)))] at h2
   cases h2
 have e : free = (free - (free &&& m)) ||| m := Nat.eq_of_testBit_eq fun k => by
  rw [Nat.testBit_or, sub_and_bit (by omega)]
  have h := hk k
  cases h1 : m.testBit k <;> cases h2 : free.testBit k <;> simp_all
 have d : (free - (free &&& m)) &&& m = 0 := Nat.eq_of_testBit_eq fun k => by
  rw [Nat.testBit_and, sub_and_bit (by omega)]
  cases m.testBit k <;> simp
 have h1 := pop_or d
 rw [← e] at h1
 have h2 : 0 < pop m := List.countP_pos_iff.2 ⟨low, by simp; omega, hb⟩
 omega
theorem neqFT (w : World) : Sem.run Tryz.prog (binOp BinOp.neq 152 Value.nilFunc Value.nilFunc) w = .ok (.bool false) w := by kernel_rfl
theorem fillA (gs base s0 b bm most : Nat) (hs : List H) (L : List Int) (hLl : L.length ≤ 1048576) (hM : Msk 36 L) (hbg : b < gs) (hgs : gs < s0) (hsl : ∀ x ∈ hs, ∀ g, ob x.1 = some g → g < s0) (hne : bm ≠ b) (hbms : bm < s0) (hmost : most ≤ 1000) (htb : 1 < b) :
 ∀ (free : Nat) (l : List Int) (A : Option Addr) (n c m : Nat) (o : Option Addr) (co : Nat) (ho : List H) (Out : List (List Int)) (w : World), Srch base gs w hs (fB L) (.func (.func 130) #[] #[.pointer (some ⟨b, 0, none⟩), .pointer (some ⟨bm, 0, none⟩)]) .nilFunc → Tb w → Blk w b 38 #[.slice o m co] → Blk w bm 3 #[.int .i64 (most : Int)] → Own2 s0 w o m co ho Out → w.ownsRow s0 3 1 (.slice A n c) n (vI l) → (∀ g, ob A = some g → ob o ≠ some g ∧ away ho g) → s0 ≤ w.heap.size → m < most → n + pop free ≤ 1000 → free < 2 ^ 36 →
  Calls Tryz.prog 131 #[.pointer (some ⟨gs, 0, none⟩), .int .i64 (free : Int), .slice A n c] w (FaPost b s0 most o w (outA L free most Out l))
 | free, l, A, n, c, m, o, co, ho, Out, w, hS, hT, hB, hBM, hO, hl, hA, hs0, hm, hnm, hf => by
  have HS := Lib.hid hS
  have HT := Lib.hid hT
  have HB := Lib.hid hB
  have HBM := Lib.hid hBM
  have HO := Lib.hid hO
  have HLO := Lib.hid hl
  have HA := Lib.hid hA
  have HSL := Lib.hid hsl
  have hln : l.length = n := by have := own_len hl; rw [vI_length] at this; omega
  have hOm : Out.length = m := hO.flen
  have HL := Lib.hid hln
  have HOM := Lib.hid hOm
  have HM := Lib.hid hM
  have s0c := hS.cellV.1
  have s1 := hS.cellV.2
  have l0 := hS.blk.lt
  have hbs : b < s0 := by omega
  clear hS hT hB hBM hO hl hA hln hOm hsl
  by_cases h0 : free = 0
  ·have hz : ((free : Int) == 0) = true := by simp [h0]
   have HTV : Hid (outA L free most Out l = Out ++ [l]) := by show _ = _; rw [h0]; exact outA_zero L l (by rw [HOM.out]; exact hm)
   clear h0 hM
   go_enter Tryz.func131, Tryz.ntmps131
   go_wp2_with fail
   refine (told_i b bm s0 m co n c most o A ho Out l w HB.out HBM.out HO.out HLO.out HA.out hne hbs hbms hm hmost hs0).mono ?_
   rintro e w1 ⟨rfl, o1, c1, h1, hb1, hO1, hF1⟩
   have H1 := Lib.hid hb1
   have H2 := Lib.hid hO1
   have H3 := Lib.hid hF1
   clear hb1 hO1 hF1
   go_wp2_with fail
   go_ret
   rw [HTV.out]
   exact ⟨by rw [show decide ((Out ++ [l]).length < most) = decide (Out.length + 1 < most) from by rw [List.length_append]; rfl]; rfl, o1, c1, h1, H1.out, H2.out, H3.out⟩
  ·have hz : ((free : Int) == 0) = false := by simp [h0]
   obtain ⟨hlb, hl64⟩ := lowN_bit h0 (by omega)
   have htz : ∀ w', Below w.heap.size w w' → Calls Tryz.prog 123 #[.int .u64 (free : Int)] w' (Ret w' (.int .i64 (lowN free : Nat))) := fun w' hb => TZ_l free w' h0 (by omega) (HT.out.below hb)
   have hV : tilV L free = (bitL (lowN free) L).flatMap (tilG L free) := tilV_pos L h0
   have hGm : ∀ m ∈ bitL (lowN free) L, m.toNat.testBit (lowN free) = true := fun m hm => (List.mem_filter.1 hm).2
   have IH : ∀ (f2 : Nat), f2 < free → ∀ (l : List Int) (A : Option Addr) (n c m : Nat) (o : Option Addr) (co : Nat) (ho : List H) (Out : List (List Int)) (w : World), Srch base gs w hs (fB L) (.func (.func 130) #[] #[.pointer (some ⟨b, 0, none⟩), .pointer (some ⟨bm, 0, none⟩)]) .nilFunc → Tb w → Blk w b 38 #[.slice o m co] → Blk w bm 3 #[.int .i64 (most : Int)] → Own2 s0 w o m co ho Out → w.ownsRow s0 3 1 (.slice A n c) n (vI l) → (∀ g, ob A = some g → ob o ≠ some g ∧ away ho g) → s0 ≤ w.heap.size → m < most → n + pop f2 ≤ 1000 → f2 < 2 ^ 36 →
    Calls Tryz.prog 131 #[.pointer (some ⟨gs, 0, none⟩), .int .i64 (f2 : Int), .slice A n c] w (FaPost b s0 most o w (outA L f2 most Out l)) := fun f2 hlt l A n c m o co ho Out w => fillA gs base s0 b bm most hs L hLl hM hbg hgs HSL.out hne hbms hmost htb f2 l A n c m o co ho Out w
   obtain ⟨low, hlo⟩ : ∃ low, lowN free = low := ⟨_, rfl⟩
   rw [hlo] at htz hl64 hlb hV hGm
   have hlow36 : low < 36 := by
    rcases Nat.lt_or_ge low 36 with h | h
    ·exact h
    ·rw [Nat.testBit_lt_two_pow (Nat.lt_of_lt_of_le hf (Nat.pow_le_pow_right (by decide) h))] at hlb
     cases hlb
   have hlh : low < hs.length := by rw [HS.out.hlen]; omega
   have hlf : low < (fB L).length := by rw [fB_len]; omega
   have d0 := HS.out.cell hlh
   have o0 := HS.out.row low hlh hlf
   rw [fB_at] at o0
   have HLH := Lib.hid hlh
   have HLF := Lib.hid hlf
   obtain ⟨M, hMM⟩ : ∃ M, bitL low L = M := ⟨_, rfl⟩
   have hMl : M.length ≤ 1048576 := by have := bitL_len low L; rw [hMM] at this; omega
   have hMk : Msk 36 M := hMM ▸ bitL_msk hM
   rw [hMM] at o0 hV hGm
   have hrowM : ∀ w', Srch base gs w' hs (fB L) (.func (.func 130) #[] #[.pointer (some ⟨b, 0, none⟩), .pointer (some ⟨bm, 0, none⟩)]) .nilFunc → Rd w' (hs[low]'hlh).1 (vI M) := fun w' h => by have := Rd.of_own (h.row low HLH.out HLF.out); rwa [fB_at, hMM] at this
   obtain ⟨D, hD⟩ : ∃ D, (hs[low]'hlh).1 = D := ⟨_, rfl⟩
   obtain ⟨q, hq⟩ : ∃ q, (hs[low]'hlh).2.1 = q := ⟨_, rfl⟩
   obtain ⟨cc, hcc⟩ : ∃ cc, (hs[low]'hlh).2.2 = cc := ⟨_, rfl⟩
   rw [hD, hq, hcc] at d0 o0
   rw [hD] at hrowM
   have hMq : M.length = q := by have := own_len o0; rw [vI_length] at this; omega
   have hcv : IntKind.u64.wrap (free : Int) = (free : Int) := by rw [IntKind.wrap_u64]; omega
   have hlo0 : (0 : Int) ≤ (low : Int) := by omega
   have hlo64 : (low : Int) < 64 := by omega
   have HRM := Lib.hid @hrowM
   have HMQ := Lib.hid hMq
   have HMK := Lib.hid hMk
   have HV := Lib.hid hV
   have HGM := Lib.hid hGm
   have HIH := Lib.hid @IH
   have HTZ := Lib.hid @htz
   have HF := Lib.hid hf
   have hqm : q ≤ 1048576 := by omega
   have HNM := Lib.hid hnm
   have hn1000 : n ≤ 1000 := by omega
   clear h0 hlb hl64 htz hV IH hlo o0 hMM hMl hMk hD hq hcc hMq hM hlh hlf hf hGm hnm hrowM
   go_enter Tryz.func131, Tryz.ntmps131
   go_wp2_with fail
   (refine wp_region_below (by kernel_rfl) (by kernel_rfl) ?_; (repeat (first | go_big_quiet_skip | (refine quietV (v := ?_) (by rfl) rfl (fun w' hbw => ?_) ?_; rotate_left; ((try dsimp only at hbw); have hbc := (bcell hbw).1; have hbf := (bcell hbw).2; go_simp; first | done | with_reducible rfl | (with_reducible exact callsB (v := .int .i64 (low : Int)) (HTZ.out _ (by with_reducible assumption)) hbw)); simp only [sq1, sq2, sq3]))); refine wpQuiet_nil ?_; intro w1 hb1)
   have HB1 := Lib.hid hb1
   clear hb1 d0 l0 s0c s1
   go_wp2_with fail
   go_loopw [26] (fun e26 wr => ∃ (i m1 co1 : Nat) (o1 : Option Addr) (ho1 : List H) (Out1 : List (List Int)), i ≤ q ∧ e26 = .int .i64 i ∧ Out1 = Out ++ ((M.take i).flatMap (tilG L free)).map (l ++ ·) ∧ m1 < most ∧ Blk wr b 38 #[.slice o1 m1 co1] ∧ Own2 s0 wr o1 m1 co1 ho1 Out1 ∧ PzFr b o w wr o1) (fun e26 _ => q - (intOf e26).toNat)
   case atStart => exact ⟨0, m, co, o, ho, Out, Nat.zero_le _, rfl, by simp, hm, HB.out.below HB1.out, HO.out.below HB1.out, PzFr.of_below HB1.out⟩
   case round =>
    clear HB1
    obtain ⟨i, m1, co1, o1, ho1, Out1, hi, rfl, hout, hm1m, hb1, hO1, hF1⟩ := hrel
    have hoS : ∀ g, ob o = some g → s0 ≤ g := fun g e => (own_lt HO.out.own g e).1
    have S := HS.out.fr hF1 hbg hgs HSL.out hoS
    have T := tb_fr HT.out hF1 htb hoS hbs
    have BM := hF1.blk HBM.out hne (fun e => by have := hoS _ e; omega)
    have RL : Rd wr A (vI l) := hF1.rd (Rd.of_own HLO.out) (fun g e => ⟨by have := (own_lt HLO.out g e).1; omega, (HA.out g e).1⟩)
    have hsz := hF1.size
    have HOUT := Lib.hid hout
    have HBX := Lib.hid hb1
    have HO1 := Lib.hid hO1
    have HF1 := Lib.hid hF1
    have HOL1 := Lib.hid hO1.flen
    have HSR := Lib.hid S
    have HTR := Lib.hid T
    have HBMR := Lib.hid BM
    have HRL := Lib.hid RL
    clear hout hb1 hO1 hF1 T BM RL hoS
    by_cases hlt : i < q
    ·have hi0 : (0 : Int) ≤ (i : Int) := by omega
     have hi1 : (i : Int) < (q : Int) := by omega
     have hil : i < M.length := by rw [HMQ.out]; exact hlt
     obtain ⟨g, off, hA, hg, d1⟩ := RdI.at_ (HRM.out wr S) hil
     obtain ⟨m, hm, hm36⟩ := HMK.out _ (List.getElem_mem hil)
     have hmb := HGM.out _ (List.getElem_mem hil)
     rw [hm] at d1 hmb
     rw [Int.toNat_natCast] at hmb
     have hsp := flat_splitT (f := tilG L free) hil
     have hsn := flat_snocT (f := tilG L free) hil
     rw [hm] at hsp hsn
     have HSP := Lib.hid (HV.out.trans hsp)
     have HSN := Lib.hid hsn
     have HMB := Lib.hid hmb
     have s1 := S.cellV.2
     have l0 := S.blk.lt
     obtain ⟨r6, hr6⟩ : ∃ r6, m - (m &&& free) = r6 := ⟨_, rfl⟩
     have hand : bits .andNot .i64 (m : Int) (free : Int) = (r6 : Int) := by rw [i64_andNot m free (by omega) (by have := HF.out; omega), hr6]
     subst hA
     by_cases hin : r6 = 0
     ·have hr0 : ((r6 : Int) != 0) = false := by simp [hin]
      have hmf : m &&& free = m := by have h1 : m &&& free ≤ m := Nat.and_le_left; omega
      obtain ⟨f2, hf2⟩ : ∃ f2, free - (free &&& m) = f2 := ⟨_, rfl⟩
      have hand2 : bits .andNot .i64 (free : Int) (m : Int) = (f2 : Int) := by rw [i64_andNot free m (by have := HF.out; omega) (by omega), hf2]
      have hfm : free - m = f2 := by rw [← hf2, Nat.and_comm, hmf]
      have hpop := pop_fallT HF.out hmf HMB.out
      have hm1 := bit_pos HMB.out
      have hmle : m ≤ free := by rw [← hmf]; exact Nat.and_le_right
      rw [hf2] at hpop
      have hG2 : tilG L free (m : Int) = (tilV L f2).map ((m : Int) :: ·) := by
       unfold tilG
       rw [Int.toNat_natCast, if_pos (by unfold inM; rw [hmf]; simp), hfm]
      rw [hG2] at hsp hsn
      have HSP := Lib.hid (HV.out.trans hsp)
      have HSN := Lib.hid hsn
      have HN2 := Lib.hid (by have := HNM.out; omega : n + 1 + pop f2 ≤ 1000)
      have HF2 := Lib.hid (by have := HF.out; omega : f2 < 2 ^ 36)
      have HLT := Lib.hid (by omega : f2 < free)
      have hm63 : (m : Int) < 9223372036854775808 := by omega
      have hrun := neqFT wr
      clear hr6 hin hmf hf2 hfm hpop hm1 hmle hsp hsn hG2 hmb S hm
      go_wp2_with fail
      refine (copyInts_i A n c l _ HRL.out HL.out (by omega)).mono ?_
      rintro e w2 ⟨D2, q2, c2, rfl, hO2, hb2⟩
      obtain rfl : q2 = n := by have := own_len hO2; rw [vI_length, HL.out] at this; omega
      have HO2 := Lib.hid hO2
      have HBR := Lib.hid hb2
      clear hO2 hb2 d1
      go_wp2_with (at_builtin; go_must (refine app_I _ rfl _ _ rfl wr.heap.size _ _ _ l rfl (HO2.out.alloc _) _ _ _ [(m : Int)] rfl (rd_newI _ _ _) rfl (by omega) (by have := HBR.out.size; simp; omega) ?_); intro D6 c6 w6 ho6 hg6 hat6; have HO6 := Lib.hid ho6; have HG6 := Lib.hid hg6; clear ho6 hg6 hat6)
      have hb6 : Below wr.heap.size wr w6 := bel_app (bel_alloc HBR.out _) HG6.out (fun g9 e9 => (own_lt HO2.out g9 e9).1)
      have HB6 := Lib.hid hb6
      have hD6 := own_lt HO6.out
      have hC := HIH.out f2 HLT.out (l ++ [(m : Int)]) D6 (q2 + 1) c6 m1 o1 co1 ho1 Out1 w6 (HSR.out.below hb6) (HTR.out.below hb6) (HBX.out.below hb6) (HBMR.out.below hb6) (HO1.out.below hb6) (own_base HO6.out (by omega))
       (fun g e => ⟨fun r => by have h1 := (hD6 g e).1; have h2 := (own_lt HO1.out.own g r).2; omega, fun x hx r => by
        obtain ⟨k, hk, rfl⟩ := List.mem_iff_getElem.1 hx
        have h1 := (hD6 g e).1
        have h2 := (own_lt (HO1.out.row k hk (HO1.out.len ▸ hk)) g r).2
        omega⟩) (by have := hb6.size; omega) hm1m HN2.out HF2.out
      clear hb6
      refine hC.mono ?_
      rintro e w7 ⟨rfl, o7, c7, h7, hb7, hO7, hF7⟩
      have hG7 : outA L f2 most Out1 (l ++ [(m : Int)]) = outA L f2 most (Out ++ ((M.take i).flatMap (tilG L free)).map (l ++ ·)) (l ++ [(m : Int)]) := by rw [HOUT.out]
      have HF7 := Lib.hid (HF1.out.trans ((PzFr.of_below HB6.out).trans hF7))
      obtain ⟨G, hG⟩ : ∃ G, outA L f2 most Out1 (l ++ [(m : Int)]) = G := ⟨_, rfl⟩
      rw [hG] at hb7 hO7 ⊢
      have HB7 := Lib.hid hb7
      have HO7 := Lib.hid hO7
      clear hb7 hO7 hF7 hC hD6
      by_cases hGl : G.length < most
      ·have hdt : decide (G.length < most) = true := decide_eq_true hGl
       have HG : Hid (G = Out ++ ((M.take (i + 1)).flatMap (tilG L free)).map (l ++ ·)) := by
        show _ = _
        rw [HSN.out, ← hG, hG7]
        exact outA_more (by rw [← hG7, hG]; exact hGl)
       rw [hdt]
       clear hG hG7 hdt
       go_wp2_with fail
       exact ⟨⟨i + 1, G.length, c7, o7, h7, G, by omega, by go_num, HG.out, hGl, HB7.out, HO7.out, HF7.out⟩, by simp [intOf]; omega⟩
      ·have hdt : decide (G.length < most) = false := decide_eq_false hGl
       have HG : Hid (outA L free most Out l = G) := by
        show _ = _
        rw [← hG, hG7]
        exact (outA_stop HSP.out (by rw [← HOUT.out, HOL1.out]; exact hm1m) (by rw [← hG7, hG]; exact hGl)).symm
       rw [hdt]
       have HGL := Lib.hid hGl
       clear hG hG7 hdt hGl
       go_wp2_with fail
       go_ret
       rw [HG.out]
       exact ⟨by rw [decide_eq_false HGL.out]; rfl, o7, c7, h7, HB7.out, HO7.out, HF7.out⟩
     ·have hr0 : ((r6 : Int) != 0) = true := by simp [hin]
      have HS2 : Hid (Out1 = Out ++ ((M.take (i + 1)).flatMap (tilG L free)).map (l ++ ·)) := by
       show _ = _
       rw [HSN.out, HOUT.out]
       congr 2
       unfold tilG
       rw [Int.toNat_natCast, if_neg (by unfold inM; simp only [beq_iff_eq]; intro h2; omega), List.append_nil]
      clear hr6 hin hsp hsn hmb S hm
      go_wp2_with fail
      exact ⟨⟨i + 1, m1, co1, o1, ho1, Out1, by omega, by go_num, HS2.out, hm1m, HBX.out, HO1.out, HF1.out⟩, by simp [intOf]; omega⟩
    ·have hi1 : ¬ (i : Int) < (q : Int) := by omega
     have HEV : Hid (outA L free most Out l = Out1) := by
      show _ = _
      have e : (M.take i).flatMap (tilG L free) = tilV L free := by rw [HV.out, List.take_of_length_le (by rw [HMQ.out]; omega)]
      rw [HOUT.out, e]
      exact (outA_end (by rw [← e, ← HOUT.out, HOL1.out]; exact hm1m)).symm
     clear S
     go_wp2_with fail
     go_ret
     rw [HEV.out]
     have h8 := HOL1.out
     exact ⟨by rw [decide_eq_true (by omega)]; rfl, o1, co1, ho1, by rw [h8]; exact HBX.out, by rw [h8]; exact HO1.out, HF1.out⟩
termination_by free => free
decreasing_by exact hlt
end

section
attribute [local go_sem ↓] Go.wp_at_zero Go.wp_at_succ
theorem firstTilings_i (A : Option Addr) (q c free most : Nat) (L : List Int) (w : World) (hr : Rd w A (vI L)) (hl : L.length = q) (hq : q ≤ 1048576) (hM : Msk 36 L) (hf : free < 2 ^ 36) (hT : Tb w) (hm0 : 0 < most) (hmost : most ≤ 900) :
  Calls Tryz.prog 76 #[.slice A q c, .int .i64 (free : Int), .int .i64 (most : Int)] w (RetO2 w ((tilV L free).take most)) := by
 have htb := World.block_lt_of_cell? w _ (hT 0 (by decide))
 have hb0 := bel_alloc (bel_alloc (Below.refl w.heap.size w) (.cells #[.int .i64 (most : Int)] 3)) (.cells #[.slice none 0 0] 38)
 have n5 := (Blk.new w 3 #[.int .i64 (most : Int)]).alloc (.cells #[.slice none 0 0] 38)
 have n8 := (Blk.new (w.alloc (.cells #[.int .i64 (most : Int)] 3)) 38 #[.slice none 0 0])
 rw [World.size_alloc] at n8
 have hR0 := hr.below hb0
 have hT0 := hT.below hb0
 have hz0 : ((w.alloc (.cells #[.int .i64 (most : Int)] 3)).alloc (.cells #[.slice none 0 0] 38)).heap.size = w.heap.size + 2 := by simp
 obtain ⟨w0, hw0⟩ : ∃ w0, (w.alloc (.cells #[.int .i64 (most : Int)] 3)).alloc (.cells #[.slice none 0 0] 38) = w0 := ⟨_, rfl⟩
 rw [hw0] at hb0 n5 n8 hR0 hT0 hz0
 have HZ0 := Lib.hid hz0
 have HW0 := Lib.hid hw0
 have HB0 := Lib.hid hb0
 have HV5 := Lib.hid n5
 have HV8 := Lib.hid n8
 have HR0 := Lib.hid hR0
 have HT0 := Lib.hid hT0
 have HL := Lib.hid hl
 have HM := Lib.hid hM
 have HF := Lib.hid hf
 have hp64 : pop free ≤ 64 := by unfold pop; have h := List.countP_le_length (p := fun i => free.testBit i) (l := List.range 64); simpa using h
 clear hw0 hb0 n5 n8 hR0 hT0 hr hl hM hf hT hz0
 go_enter Tryz.func76, Tryz.ntmps76
 go_wp2_with fail
 rw [HW0.out]
 clear HW0
 refine (newSearch_f _ _ A q c L w0 HR0.out HL.out hq HM.out).mono ?_
 rintro e w1 ⟨gs, hs, rfl, hS, hgs, hb1⟩
 have HS := Lib.hid hS
 have HB1 := Lib.hid hb1
 have HV1 := Lib.hid (HV5.out.below hb1)
 have HW1 := Lib.hid (HV8.out.below hb1)
 have HT1 := Lib.hid (HT0.out.below hb1)
 have HGS := Lib.hid hgs
 have hgl := hS.blk.lt
 clear hS hb1 HR0 hgs
 go_wp2_with fail
 refine (fillA gs (gs + 1) w1.heap.size (w.heap.size + 1) w.heap.size most hs L (by have := HL.out; omega) HM.out (by have := HGS.out; have := HZ0.out; omega) hgl (fun x hx g e => by
   obtain ⟨k, hk, rfl⟩ := List.mem_iff_getElem.1 hx
   exact (own_lt (HS.out.row k hk (by rw [HS.out.flen, ← HS.out.hlen]; exact hk)) g e).2) (by omega) (by have := HB1.out.size; have := HZ0.out; omega) (by omega) (by omega)
  free [] none 0 0 0 none 0 [] [] w1 HS.out HT1.out HW1.out HV1.out (Own2.nil _ _) ⟨rfl, .inl ⟨rfl, rfl⟩⟩ (fun g e => by cases e) (Nat.le_refl _) hm0 (by omega) HF.out).mono ?_
 rw [outA_nil]
 rintro e w2 ⟨rfl, o2, c2, h2, hb2, hO2, hF2⟩
 obtain ⟨G, hG⟩ : ∃ G, (tilV L free).take most = G := ⟨_, rfl⟩
 rw [hG] at hb2 hO2 ⊢
 have d0 : w2.cell? ⟨w.heap.size + 1, 0, none⟩ = some (.slice o2 G.length c2) := by simpa using hb2.cell 0
 have l0 := hb2.lt
 have hbel : Below w.heap.size w w2 := ⟨hF2.os.trans (HB1.out.os.trans HB0.out.os), hF2.tape.trans (HB1.out.tape.trans HB0.out.tape), hF2.output.trans (HB1.out.output.trans HB0.out.output), by have h1 := hF2.size; have h2 := HB1.out.size; have h3 := HZ0.out; omega, fun k hk => by
  have h2 := HB1.out.size
  have h3 := HZ0.out
  rw [hF2.block k (by omega) (by omega) (by simp [ob]), HB1.out.block k (by omega), HB0.out.block k hk]⟩
 have HBL := Lib.hid hbel
 have HO2 := Lib.hid (hO2.mono (show w.heap.size ≤ w1.heap.size by have h2 := HB1.out.size; have h3 := HZ0.out; omega))
 have HGE := Lib.hid hG
 clear hG hb2 hO2 hF2 hbel
 go_wp2_with fail
 go_ret
 rw [HGE.out]
 exact ⟨o2, G.length, c2, h2, rfl, HO2.out, HBL.out⟩
end

section
open Go.RowKit Go.Shelf
attribute [local go_sem ↓] Go.wp_at_zero Go.wp_at_succ
theorem sto_default (l : List C) {i : Nat} (h : i < l.length) : l.getD i default = l[i] := getD_in l h
theorem lessCells (Bs base g n c : Nat) (l : List C) (i j : Nat) (w : World) (ho : w.ownsRow base 87 2 (.slice (some ⟨g, 0, none⟩) n c) n (vC l)) (hB : w.cell? ⟨Bs, 0, none⟩ = some (.slice (some ⟨g, 0, none⟩) n c)) (hi : i < n) (hj : j < n) (b : Bool)
  (hb : b = befC (l.getD i default) (l.getD j default)) : Calls Tryz.prog 183 #[.int .i64 (i : Int), .int .i64 (j : Int), .pointer (some ⟨Bs, 0, none⟩)] w (Ret w (.bool b)) := by
 have hl : l.length = n := by have := own_len ho; rw [vC_length] at this; omega
 have hg := (own_lt ho g rfl).2
 obtain ⟨g1, o1, e1, _, a1, a2⟩ := RdC.at_ (Rd.of_own ho) (show i < l.length by omega)
 obtain ⟨g2, o2, e2, _, b1, b2⟩ := RdC.at_ (Rd.of_own ho) (show j < l.length by omega)
 simp only [Option.some.injEq, Addr.mk.injEq, and_true] at e1 e2
 obtain ⟨rfl, rfl⟩ := e1
 obtain ⟨h1, rfl⟩ := e2
 rw [Nat.zero_add] at a1 a2 b1 b2
 rw [← h1] at b1 b2
 rw [sto_default l (by omega), sto_default l (by omega)] at hb
 obtain ⟨x, hx⟩ : ∃ x, l[i].1 = x := ⟨_, rfl⟩
 obtain ⟨y, hy⟩ : ∃ y, l[i].2 = y := ⟨_, rfl⟩
 obtain ⟨p, hp⟩ : ∃ p, l[j].1 = p := ⟨_, rfl⟩
 obtain ⟨q, hq⟩ : ∃ q, l[j].2 = q := ⟨_, rfl⟩
 rw [show l[i] = (x, y) from Prod.ext hx hy, show l[j] = (p, q) from Prod.ext hp hq] at hb
 rw [hx] at a1
 rw [hy] at a2
 rw [hp] at b1
 rw [hq] at b2
 have HV := Lib.hid hb.symm
 have hBl := World.block_lt_of_cell? w _ hB
 have hi0 : (0 : Int) ≤ (i : Int) := by omega
 have hi1 : (i : Int) < (n : Int) := by omega
 have hj0 : (0 : Int) ≤ (j : Int) := by omega
 have hj1 : (j : Int) < (n : Int) := by omega
 clear ho hx hy hp hq hb h1 hl
 go_enter Tryz.func183, Tryz.ntmps183
 go_wp2_with fail
 (refine wp_region_below (by kernel_rfl) (by kernel_rfl) ?_; (repeat (first | go_big_quiet_skip | (refine quietV (v := ?_) (by rfl) rfl (fun w' hbw => ?_) ?_; rotate_left; ((try dsimp only at hbw); have hbc := (bcell hbw).1; have hbf := (bcell hbw).2; go_simp; first | done | with_reducible rfl | exact callsBB (before_i x y p q _) HV.out hbw); simp only [sq1, sq2, sq3]))); refine wpQuiet_nil ?_; intro wq hbq)
 go_wp2_with fail
 go_ret
 exact ⟨rfl, hbq⟩
theorem own_put {w : World} {base g n c : Nat} {l : List C} (ho : w.ownsRow base 87 2 (.slice (some ⟨g, 0, none⟩) n c) n (vC l)) (k : Nat) (v : C) :
  (w.setCells g (0 + k * 2) [.int .i64 v.1, .int .i64 v.2]).ownsRow base 87 2 (.slice (some ⟨g, 0, none⟩) n c) n (vC (l.set k v)) := by
 have h := ((ho.stored (k * 2) (.int .i64 v.1)).1.stored (k * 2 + 1) (.int .i64 v.2)).1
 rw [vC_set_list] at h
 rw [Nat.zero_add]
 exact h
theorem grown_alloc1 {w w' : World} {o : Obj} {row : Option Nat} (h : (w.alloc o).grownBy w' row) : w.grownBy w' row :=
 ⟨h.os, h.tape, h.output, by have := h.size; simp at this; omega, fun k hk hne => (h.block k (by simp; omega) hne).trans (Below.heap_alloc w o k hk)⟩
theorem grown_of_alloc (w : World) (o : Obj) (r : Option Nat) : w.grownBy (w.alloc o) r := ⟨rfl, rfl, rfl, by simp, fun k hk _ => Below.heap_alloc w o k hk⟩
theorem grown_cells {a w : World} {g o : Nat} (h : a.grownBy w (some g)) (x y : Value) : a.grownBy (w.setCells g o [x, y]) (some g) := grown_set (grown_set h rfl x) rfl y
theorem infoCI : ∃ ie, Tryz.prog.info? 87 = some ie ∧ ie.size = 2 := by
 obtain ⟨i0, hi, _, hz1, _⟩ := info_parts infoC
 exact ⟨i0, hi, hz1⟩
theorem swapCells (sf : Nat) (gS : Bool) (hx : ∀ args W, (callFunc sf args).run Tryz.prog W = ((Extern.ReflectliteSwapper.swap gS args).run Tryz.prog W).andThen fun v w' => .ok (.value v) w') (hagg : ∀ w, (isAgg 87).run Tryz.prog w = .ok true w)
  (base g n c : Nat) (l : List C) (i j : Nat) (w : World) (ho : w.ownsRow base 87 2 (.slice (some ⟨g, 0, none⟩) n c) n (vC l)) (hi : i < n) (hj : j < n) :
  ∃ w', (callFunc sf #[.int .i64 (i : Int), .int .i64 (j : Int), .slice (some ⟨g, 0, none⟩) n c, typeHandle Tryz.prog 87]).run Tryz.prog w = .ok (.value (.tuple #[])) w' ∧
   w'.ownsRow base 87 2 (.slice (some ⟨g, 0, none⟩) n c) n (vC (swL l i j)) ∧ ∀ a, World.grownBy a w (some g) → World.grownBy a w' (some g) := by
 have hl : l.length = n := by have := own_len ho; rw [vC_length] at this; omega
 obtain ⟨ie, hie, hsz⟩ := infoCI
 have hcell : ∀ k (hk : k < n), ∀ u v, ([.int .i64 (l.getD k default).1, .int .i64 (l.getD k default).2] : List Value)[u]? = some v → w.cell? ⟨g, 0 + k * 2 + u, none⟩ = some v := by
  intro k hk u v h
  obtain ⟨g1, o1, e1, _, a1, a2⟩ := RdC.at_ (Rd.of_own ho) (show k < l.length by omega)
  simp only [Option.some.injEq, Addr.mk.injEq, and_true] at e1
  obtain ⟨rfl, rfl⟩ := e1
  rw [sto_default l (by omega)] at h
  match u, h with
  | 0, h => simp at h; rw [← h]; exact a1
  | 1, h => simp at h; rw [← h]; exact a2
  | u + 2, h => simp at h
 have hfro : ∀ o, w.frozen? ⟨g, o, none⟩ = false := fun o => ho.frozenAt o
 have hr := Lib.run_swap_cells (P := Tryz.prog) gS 87 ie hie hagg g 0 n c i j hi hj [.int .i64 (l.getD i default).1, .int .i64 (l.getD i default).2] [.int .i64 (l.getD j default).1, .int .i64 (l.getD j default).2]
  (by rw [hsz]; rfl) (by rw [hsz]; rfl) (by simp [Value.oneCell']) (by simp [Value.oneCell']) w (by rw [hsz]; exact hcell i hi) (by rw [hsz]; exact hcell j hj) (fun k _ => hfro _) (fun k _ => hfro _)
 rw [hsz] at hr
 refine ⟨_, ?_, own_put (own_put ho i (l.getD j default)) j (l.getD i default), fun a h => grown_cells (grown_cells h _ _) _ _⟩
 rw [hx, hr]
 rfl
def SrtP (w : World) (base g n c : Nat) (l : List C) (e : Ending) (w' : World) : Prop :=
 e = .returned (.tuple #[]) ∧ ∃ l', l'.length = n ∧ (∀ x, x ∈ l' ↔ x ∈ l) ∧ l'.Pairwise (fun a b => befC b a = false) ∧ w'.ownsRow base 87 2 (.slice (some ⟨g, 0, none⟩) n c) n (vC l') ∧ w.grownBy w' (some g)
def Swaps (sf : Nat) (th : Value) (base g n c : Nat) : Prop := ∀ (w : World) (l : List C) (i j : Nat), w.ownsRow base 87 2 (.slice (some ⟨g, 0, none⟩) n c) n (vC l) → i < n → j < n →
 ∃ w', (callFunc sf #[.int .i64 (i : Int), .int .i64 (j : Int), .slice (some ⟨g, 0, none⟩) n c, th]).run Tryz.prog w = .ok (.value (.tuple #[])) w' ∧
   w'.ownsRow base 87 2 (.slice (some ⟨g, 0, none⟩) n c) n (vC (swL l i j)) ∧ ∀ a, World.grownBy a w (some g) → World.grownBy a w' (some g)
theorem insSort (sf : Nat) (th : Value) (Bs base g n c : Nat) (hsw : Swaps sf th base g n c) (l0 : List C) (w : World) (ho : w.ownsRow base 87 2 (.slice (some ⟨g, 0, none⟩) n c) n (vC l0)) (hB : w.cell? ⟨Bs, 0, none⟩ = some (.slice (some ⟨g, 0, none⟩) n c)) (hBg : Bs ≠ g) (hn : 1 ≤ n) (hn12 : n ≤ 12) :
  Calls Tryz.prog 170 #[.agg #[.func (.func 183) #[] #[.pointer (some ⟨Bs, 0, none⟩)], .func (.func sf) #[] #[.slice (some ⟨g, 0, none⟩) n c, th]], .int .i64 0, .int .i64 (n : Int)] w (SrtP w base g n c l0) := by
 have hl0 : l0.length = n := by have := own_len ho; rw [vC_length] at this; omega
 have hgl := (own_lt ho g rfl).2
 have HL := Lib.hid hl0
 have HO := Lib.hid ho
 have HBC := Lib.hid hB
 have HSW := Lib.hid hsw
 have HBB := Lib.hid (Blk.new w 120 #[.func (.func 183) #[] #[.pointer (some ⟨Bs, 0, none⟩)], .func (.func sf) #[] #[.slice (some ⟨g, 0, none⟩) n c, th]])
 clear hsw ho hB hl0
 go_enter Tryz.func170, Tryz.ntmps170
 go_wp2
 go_loopw [6] (fun e6 wr => ∃ (i : Nat) (l : List C), 1 ≤ i ∧ i ≤ n ∧ e6 = .int .i64 i ∧ l.length = n ∧ (∀ x, x ∈ l ↔ x ∈ l0) ∧ OrdTo befC l i ∧ wr.ownsRow base 87 2 (.slice (some ⟨g, 0, none⟩) n c) n (vC l) ∧ (w.alloc (.cells #[.func (.func 183) #[] #[.pointer (some ⟨Bs, 0, none⟩)], .func (.func sf) #[] #[.slice (some ⟨g, 0, none⟩) n c, th]] 120)).grownBy wr (some g)) (fun e6 _ => n - (intOf e6).toNat)
 case atStart => exact ⟨1, l0, by omega, by omega, by simp, HL.out, fun x => Iff.rfl, OrdTo.start l0, HO.out.alloc _, World.grownBy.refl _ _⟩
 case round =>
  obtain ⟨i, l, hi1, hin, rfl, hll, hmem, hord, hown, hg⟩ := hrel
  have HLL := Lib.hid hll
  have HM := Lib.hid hmem
  have HOR := Lib.hid hord
  have HOW := Lib.hid hown
  have HG := Lib.hid hg
  clear hll hmem hord hown hg
  by_cases hlt : i < n
  ·have hiI : (i : Int) < (n : Int) := by omega
   go_wp2
   go_loopw [7] (fun e7 wr => ∃ (j : Nat) (l : List C), j ≤ i ∧ e7 = .int .i64 j ∧ l.length = n ∧ (∀ x, x ∈ l ↔ x ∈ l0) ∧ NearO befC l i j ∧ wr.ownsRow base 87 2 (.slice (some ⟨g, 0, none⟩) n c) n (vC l) ∧ (w.alloc (.cells #[.func (.func 183) #[] #[.pointer (some ⟨Bs, 0, none⟩)], .func (.func sf) #[] #[.slice (some ⟨g, 0, none⟩) n c, th]] 120)).grownBy wr (some g)) (fun e7 _ => (intOf e7).toNat)
   case atStart => exact ⟨i, l, Nat.le_refl _, rfl, HLL.out, HM.out, HOR.out.near, HOW.out, HG.out⟩
   case round =>
    clear HLL HM HOR HOW HG
    obtain ⟨j, l, hji, rfl, hll, hmem, hnear, hown, hg⟩ := hrel
    have HLL := Lib.hid hll
    have HM := Lib.hid hmem
    have HN := Lib.hid hnear
    have HOW := Lib.hid hown
    have HG := Lib.hid hg
    clear hll hmem hnear hown hg
    by_cases hj0 : 0 < j
    ·obtain ⟨p, hp⟩ : ∃ p, j = p + 1 := ⟨j - 1, by omega⟩
     have hjI : (j : Int) > 0 := by omega
     have hpI : (j : Int) - 1 = (p : Int) := by omega
     have hpw : IntKind.i64.wrap (p : Int) = (p : Int) := Go.IntWalk.i64_in _ (by omega)
     have HP := Lib.hid hp
     have hBB := HBB.out.grown HG.out (fun e => by injection e with e; omega)
     have b0 : wr.cell? ⟨w.heap.size, 0, none⟩ = some (.func (.func 183) #[] #[.pointer (some ⟨Bs, 0, none⟩)]) := by simpa using hBB.cell 0
     have b1 : wr.cell? ⟨w.heap.size, 1, none⟩ = some (.func (.func sf) #[] #[.slice (some ⟨g, 0, none⟩) n c, th]) := by simpa using hBB.cell 1
     have bl := hBB.lt
     have HBC2 := Lib.hid (keep_grown HG.out (keep_alloc HBC.out) (by simpa using hBg))
     have HBW := Lib.hid hBB
     have hjn : j < n := by omega
     have hpn : p < n := by omega
     clear hBB hp
     cases hbf : befC (l.getD j default) (l.getD p default) with
     | true =>
      have HBF := Lib.hid hbf
      clear hbf
      go_wp2_with fail
      refine (lessCells Bs base g n c l j p _ HOW.out HBC2.out hjn hpn true HBF.out.symm).mono ?_
      rintro e w1 ⟨rfl, hb1⟩
      have hBB1 := HBW.out.below hb1
      have c1 : w1.cell? ⟨w.heap.size, 1, none⟩ = some (.func (.func sf) #[] #[.slice (some ⟨g, 0, none⟩) n c, th]) := by simpa using hBB1.cell 1
      have cl := hBB1.lt
      obtain ⟨w2, hrun, ho2, hg2⟩ := HSW.out w1 l j p (own_keep HOW.out hb1) hjn hpn
      have HO2 := Lib.hid ho2
      have HG2 := Lib.hid (hg2 _ (grown_below HG.out hb1))
      have HN2 : Hid (NearO befC (swL l j p) i p) := by
       have h1 := HN.out
       rw [HP.out] at h1 ⊢
       exact h1.step befC_sto (by omega) (by rw [HLL.out]; exact hlt) (by rw [← HP.out]; exact HBF.out)
      clear hBB1 ho2 hg2 b0 b1 bl
      go_wp2_with fail
      exact ⟨⟨p, swL l j p, by omega, rfl, by rw [swL_len]; exact HLL.out, fun x => (swL_mem l (by rw [HLL.out]; exact hjn) (by rw [HLL.out]; exact hpn) x).trans (HM.out x), HN2.out, HO2.out, HG2.out⟩, by simp [intOf]; omega⟩
     | false =>
      have HBF := Lib.hid hbf
      clear hbf
      go_wp2_with fail
      refine (lessCells Bs base g n c l j p _ HOW.out HBC2.out hjn hpn false HBF.out.symm).mono ?_
      rintro e w1 ⟨rfl, hb1⟩
      have HO2 : Hid (OrdTo befC l (i + 1)) := by
       have h1 := HN.out
       rw [HP.out] at h1
       exact h1.stop befC_sto (by have := HP.out; omega) (by rw [← HP.out]; exact HBF.out)
      go_wp2_with fail
      exact ⟨⟨i + 1, l, by omega, by omega, by go_num, HLL.out, HM.out, HO2.out, own_keep HOW.out hb1, grown_below HG.out hb1⟩, by simp [intOf]; omega⟩
    ·obtain rfl : j = 0 := by omega
     have HO2 := Lib.hid (HN.out.zero)
     clear hj0
     go_wp2_with fail
     exact ⟨⟨i + 1, l, by omega, by omega, by go_num, HLL.out, HM.out, HO2.out, HOW.out, HG.out⟩, by simp [intOf]; omega⟩
  ·obtain rfl : i = n := by omega
   have hiI : ¬ (i : Int) < (i : Int) := by omega
   go_wp2
   go_end0
   exact ⟨rfl, l, HLL.out, HM.out, OrdTo.done (by rw [HLL.out]; exact HOR.out), HOW.out, grown_alloc1 HG.out⟩
theorem insSort1 (S : Value) (F : Value) (base g n c : Nat) (l0 : List C) (w : World) (ho : w.ownsRow base 87 2 (.slice (some ⟨g, 0, none⟩) n c) n (vC l0)) (hn : n ≤ 1) :
  Calls Tryz.prog 170 #[.agg #[F, S], .int .i64 0, .int .i64 (n : Int)] w (SrtP w base g n c l0) := by
 have hl0 : l0.length = n := by have := own_len ho; rw [vC_length] at this; omega
 have HL := Lib.hid hl0
 have HO := Lib.hid ho
 have hnI : ¬ (1 : Int) < (n : Int) := by omega
 clear ho hl0
 go_enter Tryz.func170, Tryz.ntmps170
 go_wp2
 go_loopw [6] (fun e6 wr => e6 = .int .i64 1 ∧ wr = w.alloc (.cells #[F, S] 120)) (fun e6 _ => 0)
 case atStart => exact ⟨by simp, rfl⟩
 case round =>
  obtain ⟨rfl, rfl⟩ := hrel
  go_wp2
  go_end0
  refine ⟨rfl, l0, HL.out, fun x => Iff.rfl, ?_, HO.out.alloc _, grown_of_alloc _ _ _⟩
  rcases (by omega : n = 0 ∨ n = 1) with rfl | rfl
  ·rw [List.eq_nil_of_length_eq_zero HL.out]; exact List.Pairwise.nil
  ·obtain ⟨a, ha⟩ := List.length_eq_one_iff.1 HL.out
   rw [ha]; exact List.pairwise_singleton _ _
theorem pdqSmall (D : Value) (F S : Value) (hD : D = .agg #[F, S]) (base g n c : Nat) (lim : Int) (l0 : List C) (w : World) (hn12 : n ≤ 12)
  (hi : ∀ w', Below w.heap.size w w' → Calls Tryz.prog 170 #[.agg #[F, S], .int .i64 0, .int .i64 (n : Int)] w' (SrtP w' base g n c l0)) :
  Calls Tryz.prog 196 #[D, .int .i64 0, .int .i64 (n : Int), .int .i64 lim] w (SrtP w base g n c l0) := by
 subst hD
 have HI := Lib.hid hi
 have hnI : (n : Int) ≤ 12 := by omega
 clear hi
 go_enter Tryz.func196, Tryz.ntmps196
 go_wp2
 refine wp_loop_rounds 1 ?_
 rw [rounds_succ]
 go_wp2_with fail
 refine (HI.out _ (by (repeat (first | with_reducible exact Below.refl _ _ | with_reducible assumption | with_reducible apply bel_alloc | with_reducible apply bel_drew | with_reducible apply bel_drewN | ((with_reducible refine bel_set ?_ ?_); rotate_left; (simp <;> omega)) | (with_reducible refine bel_trans ?_ (by with_reducible assumption)))))).mono ?_
 rintro e w1 ⟨rfl, l', h1, h2, h3, h4, h5⟩
 have HR : Hid (SrtP w base g n c l0 (.returned (.tuple #[])) w1) := ⟨rfl, l', h1, h2, h3, h4, grown_alloc1 h5⟩
 clear h1 h2 h3 h4 h5
 go_wp2_with fail
 (try simp only [Exit.inBlock, Exit.then])
 refine bodyPost_ret (results_none rfl _ _ _) rfl ?_
 exact HR.out
noncomputable def tiS : TypeInfo := (Tryz.prog.info? 52).get (by kernel_rfl)
noncomputable def tiC : TypeInfo := (Tryz.prog.info? 87).get (by kernel_rfl)
theorem swapK2 (n : Nat) (h2 : 2 ≤ n) : Lib.swapperK n tiC 25 = 9 := by
 have a : tiC.hasPointers = false := by kernel_rfl
 have b : tiC.bytes = 16 := by kernel_rfl
 have c : (n == 0) = false := by simp; omega
 have d : (n == 1) = false := by simp; omega
 simp [Lib.swapperK, a, b, c, d]
theorem sortCells (Bs base g n c : Nat) (l0 : List C) (w : World) (ho : w.ownsRow base 87 2 (.slice (some ⟨g, 0, none⟩) n c) n (vC l0)) (hB : w.cell? ⟨Bs, 0, none⟩ = some (.slice (some ⟨g, 0, none⟩) n c)) (hBg : Bs ≠ g) (hn : 1 ≤ n) (hn12 : n ≤ 12) :
  Calls Tryz.prog 182 #[.iface 52 (.slice (some ⟨g, 0, none⟩) n c), .func (.func 183) #[] #[.pointer (some ⟨Bs, 0, none⟩)]] w (SrtP w base g n c l0) := by
 have hagg : ∀ w, (isAgg 87).run Tryz.prog w = .ok true w := fun _ => by kernel_rfl
 have fin : ∀ (W : World), W = sliceWorld Tryz.prog Tryz.laysGg6_ren 52 (some ⟨g, 0, none⟩) n c w → W.ownsRow base 87 2 (.slice (some ⟨g, 0, none⟩) n c) n (vC l0) ∧ W.cell? ⟨Bs, 0, none⟩ = some (.slice (some ⟨g, 0, none⟩) n c) ∧
   ∀ w', W.grownBy w' (some g) → w.grownBy w' (some g) := by
  intro W hW
  subst hW
  unfold sliceWorld
  exact ⟨(ho.alloc _).alloc _, keep_alloc (keep_alloc hB), fun w' h => grown_alloc1 (grown_alloc1 h)⟩
 obtain ⟨h1, h2, h3⟩ := fin _ rfl
 have hpost : ∀ e w', SrtP (sliceWorld Tryz.prog Tryz.laysGg6_ren 52 (some ⟨g, 0, none⟩) n c w) base g n c l0 e w' → e = .returned (.tuple #[]) ∧ (∃ l', l'.length = n ∧ (∀ x, x ∈ l' ↔ x ∈ l0) ∧ l'.Pairwise (fun a b => befC b a = false) ∧ w'.ownsRow base 87 2 (.slice (some ⟨g, 0, none⟩) n c) n (vC l') ∧ w.grownBy w' (some g)) :=
  fun e w' ⟨he, l', a1, a2, a3, a4, a5⟩ => ⟨he, l', a1, a2, a3, a4, h3 _ a5⟩
 by_cases hn2 : 2 ≤ n
 ·refine (Any.sort_Slice_of_pdq Tryz.laysGg6 52 87 tiS tiC (by kernel_rfl) (by kernel_rfl) (by kernel_rfl) (by kernel_rfl) 25 (fun _ => by kernel_rfl) (some ⟨g, 0, none⟩) n c (by omega) 169 (by rw [swapK2 n hn2]; kernel_rfl) (.func 183) #[] #[.pointer (some ⟨Bs, 0, none⟩)] w
   (fun w' => ∃ l', l'.length = n ∧ (∀ x, x ∈ l' ↔ x ∈ l0) ∧ l'.Pairwise (fun a b => befC b a = false) ∧ w'.ownsRow base 87 2 (.slice (some ⟨g, 0, none⟩) n c) n (vC l') ∧ w.grownBy w' (some g)) ?_).mono (fun e w' h => ⟨h.1, h.2⟩)
  have hbd : sliceBound Tryz.prog 87 tiC 25 (some ⟨g, 0, none⟩) n c = #[.slice (some ⟨g, 0, none⟩) n c, typeHandle Tryz.prog 87] := by
   unfold sliceBound
   rw [swapK2 n hn2]
   rfl
  rw [hbd]
  have hx : ∀ args W, (callFunc 169 args).run Tryz.prog W = ((Extern.ReflectliteSwapper.swap false args).run Tryz.prog W).andThen fun v w' => .ok (.value v) w' := fun args W => run_callFunc_extern Tryz.func169 (by kernel_rfl) (by kernel_rfl) (by kernel_rfl) (e := Extern.ReflectliteSwapper.swap false) (by kernel_rfl) args W
  refine (pdqSmall _ _ _ rfl base g n c _ l0 _ hn12 fun w' hb => ?_).mono hpost
  exact insSort _ _ Bs base g n c (fun w l i j a b c => swapCells _ false hx hagg base g n _ l i j w a b c) l0 w' (own_keep h1 hb) ((hb.cell (World.block_lt_of_cell? _ _ h2)).trans h2) hBg hn hn12
 ·have hn1 : n = 1 := by omega
  subst hn1
  refine (Any.sort_Slice_of_pdq Tryz.laysGg6 52 87 tiS tiC (by kernel_rfl) (by kernel_rfl) (by kernel_rfl) (by kernel_rfl) 25 (fun _ => by kernel_rfl) (some ⟨g, 0, none⟩) 1 c (by omega) 162 (by kernel_rfl) (.func 183) #[] #[.pointer (some ⟨Bs, 0, none⟩)] w
   (fun w' => ∃ l', l'.length = 1 ∧ (∀ x, x ∈ l' ↔ x ∈ l0) ∧ l'.Pairwise (fun a b => befC b a = false) ∧ w'.ownsRow base 87 2 (.slice (some ⟨g, 0, none⟩) 1 c) 1 (vC l') ∧ w.grownBy w' (some g)) ?_).mono (fun e w' h => ⟨h.1, h.2⟩)
  refine (pdqSmall _ _ _ rfl base g 1 c _ l0 _ (by omega) fun w' hb => ?_).mono hpost
  exact insSort1 _ _ base g 1 c l0 w' (own_keep h1 hb) (Nat.le_refl _)
end

section
attribute [local go_sem ↓] Go.wp_at_zero Go.wp_at_succ
theorem keepG_C (l : List C) (k : Nat) : keepG l k = (k == 0 || !decide (l.getD (k - 1) default = l.getD k default)) := by
 unfold keepG
 generalize l.getD (k - 1) default = a
 generalize l.getD k default = b
 congr 1
theorem ded_fin {l xs : List C} (hp : l.Pairwise (fun a b => befC b a = false)) (hm : ∀ x, x ∈ l ↔ x ∈ xs) : dedG l l.length = sortC xs := dedG_eq befC_sto hp hm
theorem SortCells_i (A : Option Addr) (n c : Nat) (xs : List C) (w : World) (hr : Rd w A (vC xs)) (hl : xs.length = n) (hn : 1 ≤ n) (hn12 : n ≤ 12) :
  Calls Tryz.prog 153 #[.slice A n c] w (RetS w 87 2 (vC (sortC xs))) := by
 have HL := Lib.hid hl
 have HR := Lib.hid hr
 clear hl hr
 go_enter Tryz.func153, Tryz.ntmps153
 go_wp2_with (at_builtin; go_must (refine app_C _ rfl _ _ rfl w.heap.size none 0 0 [] rfl (own_nil _ _ _ _) _ _ _ xs rfl HR.out HL.out (by omega) (by omega) ?_); intro D c2 w1 ho1 hg1 hat1; simp only [Nat.zero_add, List.nil_append] at ho1; obtain ⟨g, hD, hbg, hgl⟩ := own_at ho1 (by omega); subst hD; have HO1 := Lib.hid ho1; have HB1 := Lib.hid (bel_app (Below.refl w.heap.size w) hg1 (fun g h => by cases h)); have HBX := Lib.hid (Blk.new w1 52 #[.slice (some ⟨g, 0, none⟩) n c2]); clear ho1 hg1 hat1)
 have hwl := HB1.out.size
 refine (sortCells w1.heap.size w.heap.size g n c2 xs _ (HO1.out.alloc _) (HBX.out.cell 0) (by omega) hn hn12).mono ?_
 rintro e w2 ⟨rfl, l, hll, hlm, hlp, ho2, hg2⟩
 have hb2 : Below w.heap.size w w2 := bel_app (A := some ⟨g, 0, none⟩) (bel_alloc HB1.out _) hg2 (fun k e => by simp only [ob, Option.map_some, Option.some.injEq] at e; omega)
 have HV : Hid (dedG l n = sortC xs) := by have := ded_fin hlp hlm; rwa [hll] at this
 have hBX := HBX.out.grown hg2 (fun e => by injection e with e; omega)
 have b0 : w2.cell? ⟨w1.heap.size, 0, none⟩ = some (.slice (some ⟨g, 0, none⟩) n c2) := by simpa using hBX.cell 0
 have bl := hBX.lt
 have HBY := Lib.hid hBX
 have HLL := Lib.hid hll
 have HRL := Lib.hid (Rd.of_own ho2)
 have hg3 := (own_lt ho2 g rfl).2
 have hsz2 := hb2.size
 clear hll hlm hlp ho2 hg2 hBX
 go_wp2_with fail
 go_loopw [15, 4] (fun e15 e4 wr => ∃ (k q cq : Nat) (D : Option Addr), k ≤ n ∧ q ≤ k ∧ e15 = .int .i64 k ∧ e4 = .slice D q cq ∧ wr.ownsRow w2.heap.size 87 2 (.slice D q cq) q (vC (dedG l k)) ∧ Below w2.heap.size w2 wr) (fun e15 _ _ => n - (intOf e15).toNat)
 case atStart => exact ⟨0, 0, 0, none, by omega, by omega, rfl, rfl, own_nil _ _ _ _, Below.refl _ _⟩
 case round =>
  obtain ⟨k, q, cq, D, hk, hq, rfl, rfl, hown, hb⟩ := hrel
  by_cases hlt : k < n
  ·have hkl : k < l.length := by rw [HLL.out]; exact hlt
   have hrw := HRL.out.below hb
   obtain ⟨g', off, he, _, a1, a2⟩ := RdC.at_ hrw hkl
   simp only [Option.some.injEq, Addr.mk.injEq, and_true] at he
   obtain ⟨rfl, rfl⟩ := he
   rw [Nat.zero_add] at a1 a2
   have hgd : l.getD k default = l[k] := getD_in l hkl
   have hst : dedG l (k + 1) = dedG l k ++ (if keepG l k then [l.getD k default] else []) := rfl
   obtain ⟨x, hx⟩ : ∃ x, l[k].1 = x := ⟨_, rfl⟩
   obtain ⟨y, hy⟩ : ∃ y, l[k].2 = y := ⟨_, rfl⟩
   have hxy : l[k] = (x, y) := Prod.ext hx hy
   rw [hx] at a1
   rw [hy] at a2
   rw [hxy] at hgd
   rw [hgd] at hst
   have HO := Lib.hid hown
   have hbs := hb.size
   have KEEP : Hid (keepG l k = true → dedG l (k + 1) = dedG l k ++ [(x, y)]) := fun h => by rw [hst, h]; rfl
   have SKIP : Hid (keepG l k = false → dedG l (k + 1) = dedG l k) := fun h => by rw [hst, h]; simp
   have hka : keepG l k = (k == 0 || !decide (l.getD (k - 1) default = (x, y))) := by rw [keepG_C, hgd]
   have HKA := Lib.hid hka
   have hglw : g < wr.heap.size := Nat.lt_of_lt_of_le hg3 hb.size
   have hB := HBY.out.below hb
   have d0 : wr.cell? ⟨w1.heap.size, 0, none⟩ = some (.slice (some ⟨g, 0, none⟩) n c2) := by simpa using hB.cell 0
   have dl := hB.lt
   have hk1 : (0 : Int) ≤ (k : Int) := by omega
   have hk2 : (k : Int) < (n : Int) := by omega
   clear hx hy hxy hst hgd hka hown hB b0 bl
   by_cases hk0 : k = 0
   ·have e0 : ((k : Int) == 0) = true := by simp [hk0]
    have HN := Lib.hid (KEEP.out (by rw [HKA.out, hk0]; rfl))
    clear KEEP SKIP HKA hk0
    go_wp2_with fail
    (refine wp_region_below (by kernel_rfl) (by kernel_rfl) ?_; (repeat (first | go_big_quiet_skip | (refine quietV (v := ?_) (by rfl) rfl (fun w' hbw => ?_) ?_; rotate_left; ((try dsimp only at hbw); have hbc := (bcell hbw).1; have hbf := (bcell hbw).2; go_simp; first | done | with_reducible rfl | fail); simp only [sq1, sq2, sq3]))); refine wpQuiet_nil ?_; intro wq hbq)
    have hbz := hbq.size
    simp only [World.size_alloc] at hbz
    have hCB := (Blk.new wr 87 #[.int .i64 x, .int .i64 y]).below hbq
    have z0 : wq.cell? ⟨wr.heap.size, 0, none⟩ = some (.int .i64 x) := by simpa using hCB.cell 0
    have z1 : wq.cell? ⟨wr.heap.size, 1, none⟩ = some (.int .i64 y) := by simpa using hCB.cell 1
    have zl := hCB.lt
    clear hCB
    go_wp2_with (at_builtin; go_must (refine app_C _ rfl _ _ rfl w2.heap.size _ _ _ _ rfl (own_keep (own_keep (HO.out.alloc _) hbq) (bel_alloc (Below.refl _ _) _)) _ _ _ [(x, y)] rfl (rd_newC _ _ _ _) rfl (by omega) (by simp; omega) ?_); intro D2 cp2 w8 ho8 hg8 hat8; have HO8 := Lib.hid ho8; have HG8 := Lib.hid hg8; clear ho8 hg8 hat8)
    exact ⟨⟨k + 1, q + 1, cp2, D2, by omega, by omega, by go_num, rfl, by rw [HN.out]; exact HO8.out, bel_app (bel_alloc (bel_trans (bel_alloc hb _) hbq) _) HG8.out (fun g' hg1 => ((own_lt HO.out) g' hg1).1)⟩, by simp [intOf]; omega⟩
   ·obtain ⟨j, hjk⟩ : ∃ j, k = j + 1 := ⟨k - 1, by omega⟩
    have hjl : j < l.length := by omega
    obtain ⟨g', off', he, _, c1, c3⟩ := RdC.at_ hrw hjl
    simp only [Option.some.injEq, Addr.mk.injEq, and_true] at he
    obtain ⟨rfl, rfl⟩ := he
    rw [Nat.zero_add] at c1 c3
    obtain ⟨p, hp⟩ : ∃ p, l[j].1 = p := ⟨_, rfl⟩
    obtain ⟨r, hr⟩ : ∃ r, l[j].2 = r := ⟨_, rfl⟩
    have hgj : l.getD (k - 1) default = (p, r) := by rw [hjk, Nat.add_sub_cancel, getD_in l hjl]; exact Prod.ext hp hr
    rw [hp] at c1
    rw [hr] at c3
    have e0 : ((k : Int) == 0) = false := by simp; omega
    have hj1 : (k : Int) - 1 = (j : Int) := by omega
    have hj0 : (0 : Int) ≤ (j : Int) := by omega
    have hjw : IntKind.i64.wrap (j : Int) = (j : Int) := Go.IntWalk.i64_in _ (by omega)
    have hjm : (j : Int) < (n : Int) := by omega
    have hkk : (k == 0) = false := by simpa using hk0
    have hkz : ¬ k = 0 := hk0
    have HKK := Lib.hid hkk
    have HGJ := Lib.hid hgj
    clear hp hr hgj hjk hkk hk0
    by_cases hsame : p = x ∧ r = y
    ·obtain ⟨rfl, rfl⟩ := hsame
     have HN := Lib.hid (SKIP.out (by rw [HKA.out, HKK.out, HGJ.out]; simp))
     have hne : (p == p && r == r) = true := by simp
     clear KEEP SKIP HKA
     go_wp2_with fail
     (refine wp_region_below (by kernel_rfl) (by kernel_rfl) ?_; (repeat (first | go_big_quiet_skip | (refine quietV (v := ?_) (by rfl) rfl (fun w' hbw => ?_) ?_; rotate_left; ((try dsimp only at hbw); have hbc := (bcell hbw).1; have hbf := (bcell hbw).2; go_simp; first | done | with_reducible rfl | fail); simp only [sq1, sq2, sq3]))); refine wpQuiet_nil ?_; intro wq hbq)
     go_wp2_with fail
     exact ⟨⟨k + 1, q, cq, D, by omega, by omega, by go_num, rfl, by rw [HN.out]; exact own_keep (HO.out.alloc _) hbq, bel_trans (bel_alloc hb _) hbq⟩, by simp [intOf]; omega⟩
    ·have hne : (p == x && r == y) = false := by
      rw [Bool.and_eq_false_iff, beq_eq_false_iff_ne, beq_eq_false_iff_ne]
      by_cases h1 : p = x
      ·exact .inr fun h2 => hsame ⟨h1, h2⟩
      ·exact .inl h1
     have HN := Lib.hid (KEEP.out (by
      rw [HKA.out, HKK.out, HGJ.out, Bool.false_or, decide_eq_false (fun e => hsame (by injection e with e1 e2; exact ⟨e1, e2⟩))]
      rfl))
     clear KEEP SKIP HKA hsame
     go_wp2_with fail
     (refine wp_region_below (by kernel_rfl) (by kernel_rfl) ?_; (repeat (first | go_big_quiet_skip | (refine quietV (v := ?_) (by rfl) rfl (fun w' hbw => ?_) ?_; rotate_left; ((try dsimp only at hbw); have hbc := (bcell hbw).1; have hbf := (bcell hbw).2; go_simp; first | done | with_reducible rfl | fail); simp only [sq1, sq2, sq3]))); refine wpQuiet_nil ?_; intro wq hbq)
     have hbz := hbq.size
     simp only [World.size_alloc] at hbz
     have hCB := (Blk.new wr 87 #[.int .i64 x, .int .i64 y]).below hbq
     have z0 : wq.cell? ⟨wr.heap.size, 0, none⟩ = some (.int .i64 x) := by simpa using hCB.cell 0
     have z1 : wq.cell? ⟨wr.heap.size, 1, none⟩ = some (.int .i64 y) := by simpa using hCB.cell 1
     have zl := hCB.lt
     clear hCB
     go_wp2_with (at_builtin; go_must (refine app_C _ rfl _ _ rfl w2.heap.size _ _ _ _ rfl (own_keep (own_keep (HO.out.alloc _) hbq) (bel_alloc (Below.refl _ _) _)) _ _ _ [(x, y)] rfl (rd_newC _ _ _ _) rfl (by omega) (by simp; omega) ?_); intro D2 cp2 w8 ho8 hg8 hat8; have HO8 := Lib.hid ho8; have HG8 := Lib.hid hg8; clear ho8 hg8 hat8)
     exact ⟨⟨k + 1, q + 1, cp2, D2, by omega, by omega, by go_num, rfl, by rw [HN.out]; exact HO8.out, bel_app (bel_alloc (bel_trans (bel_alloc hb _) hbq) _) HG8.out (fun g' hg1 => ((own_lt HO.out) g' hg1).1)⟩, by simp [intOf]; omega⟩
  ·obtain rfl : k = n := by omega
   rw [HV.out] at hown
   have HO := Lib.hid (own_base hown hsz2)
   have hk1 : ¬ (k : Int) < (k : Int) := by omega
   clear hown
   go_wp2
   go_ret
   exact ⟨_, _, _, rfl, HO.out, bel_trans hb2 hb⟩
end

section
attribute [local go_sem ↓] Go.wp_at_zero Go.wp_at_succ
theorem moved_i (A : Option Addr) (n c : Nat) (xs : List C) (x y : Int) (w : World) (hr : Rd w A (vC xs)) (hl : xs.length = n) (hn : n ≤ 1048576) (hs : ∀ d ∈ xs, small d) (hx : -1000 ≤ x ∧ x ≤ 1000) (hy : -1000 ≤ y ∧ y ≤ 1000) :
  Calls Tryz.prog 154 #[.slice A n c, .int .i64 x, .int .i64 y] w (RetS w 87 2 (vC (mv xs x y))) := by
 have HL := Lib.hid hl
 have HS := Lib.hid hs
 obtain ⟨hx1, hx2⟩ := hx
 obtain ⟨hy1, hy2⟩ := hy
 clear hl hs
 go_enter Tryz.func154, Tryz.ntmps154
 go_wp2
 go_loopw [12, 7] (fun e12 e7 wr => ∃ (k cq : Nat) (D : Option Addr), k ≤ n ∧ e12 = .int .i64 k ∧ e7 = .slice D k cq ∧ wr.ownsRow w.heap.size 87 2 (.slice D k cq) k (vC (mv (xs.take k) x y)) ∧ Below w.heap.size w wr) (fun e12 _ _ => n - (intOf e12).toNat)
 case atStart => exact ⟨0, 0, none, Nat.zero_le _, rfl, rfl, own_nil _ _ _ _, Below.refl _ _⟩
 case round =>
  obtain ⟨k, cq, D, hk, rfl, rfl, hown, hb⟩ := hrel
  by_cases hlt : k < n
  ·have hkl : k < xs.length := by rw [HL.out]; exact hlt
   have hk0 : (0 : Int) ≤ (k : Int) := by omega
   have hk1 : (k : Int) < (n : Int) := by omega
   obtain ⟨g, off, rfl, hg, d1, d2⟩ := RdC.at_ (hr.below hb) hkl
   have hst := mv_take xs x y k hkl
   have hsm := HS.out _ (List.getElem_mem hkl)
   obtain ⟨p, hp⟩ : ∃ p, xs[k].1 = p := ⟨_, rfl⟩
   obtain ⟨q, hq⟩ : ∃ q, xs[k].2 = q := ⟨_, rfl⟩
   unfold small at hsm
   rw [hp, hq] at hsm hst
   rw [hp] at d1
   rw [hq] at d2
   have e1 : IntKind.i64.wrap (p + x) = p + x := Go.IntWalk.i64_in _ (by omega)
   have e2 : IntKind.i64.wrap (q + y) = q + y := Go.IntWalk.i64_in _ (by omega)
   have HST := Lib.hid hst
   have HO := Lib.hid hown
   have hbs := hb.size
   have HRN : Hid (Rd ((wr.alloc (.cells #[.int .i64 p, .int .i64 q] 87)).alloc (.cells #[.int .i64 (p + x), .int .i64 (q + y)] 87)) (some ⟨wr.heap.size + 1, 0, none⟩) (vC [(p + x, q + y)])) := by
    have := rd_newC (wr.alloc (.cells #[.int .i64 p, .int .i64 q] 87)) 87 (p + x) (q + y)
    rw [show (wr.alloc (.cells #[.int .i64 p, .int .i64 q] 87)).heap.size = wr.heap.size + 1 from by simp] at this
    exact this
   clear hst hown hp hq hsm
   go_wp2_with (at_builtin; go_must (refine app_C _ rfl _ _ rfl w.heap.size _ _ _ _ rfl ((HO.out.alloc _).alloc _) _ _ _ [(p + x, q + y)] rfl HRN.out rfl (by omega) (by simp; omega) ?_); intro D2 cp2 w8 ho8 hg8 hat8; have HO8 := Lib.hid ho8; have HG8 := Lib.hid hg8; clear ho8 hg8 hat8)
   exact ⟨⟨k + 1, cp2, D2, by omega, by go_num, rfl, by rw [HST.out]; exact HO8.out, bel_app (bel_alloc (bel_alloc hb _) _) HG8.out (fun g' hg1 => ((own_lt HO.out) g' hg1).1)⟩, by simp [intOf]; omega⟩
  ·obtain rfl : k = n := by omega
   rw [List.take_of_length_le (by rw [HL.out]; omega)] at hown
   have HO := Lib.hid hown
   have hk1 : ¬ (k : Int) < (k : Int) := by omega
   clear hown
   go_wp2
   go_ret
   exact ⟨_, _, _, rfl, HO.out, hb⟩
theorem corner_i (A : Option Addr) (n c : Nat) (xs : List C) (w : World) (hr : Rd w A (vC xs)) (hl : xs.length = n) (hn1 : 1 ≤ n) (hn : n ≤ 12) (hs : ∀ d ∈ xs, small d) :
  Calls Tryz.prog 104 #[.slice A n c] w (RetS w 87 2 (vC (cornI xs))) := by
 have h0 : 0 < xs.length := by omega
 have hsm := minC_small h0 hs
 have hms : ∀ k, k ≤ n → (-1000 ≤ minTo (·.1) xs k ∧ minTo (·.1) xs k ≤ 1000) ∧ (-1000 ≤ minTo (·.2) xs k ∧ minTo (·.2) xs k ≤ 1000) := by
  intro k hk
  obtain ⟨a, ha, e1⟩ := minTo_at (·.1) xs h0 k (by omega)
  obtain ⟨b, hb, e2⟩ := minTo_at (·.2) xs h0 k (by omega)
  have h1 := hs a ha
  have h2 := hs b hb
  unfold small at h1 h2
  rw [e1, e2]
  exact ⟨h1.1, h2.2⟩
 have hV : cornI xs = sortC (mv xs (-(minTo (·.1) xs n)) (-(minTo (·.2) xs n))) := by unfold cornI minC; rw [hl]
 have HV := Lib.hid hV
 have HL := Lib.hid hl
 have HS := Lib.hid hs
 have HMS := Lib.hid hms
 have HR := Lib.hid hr
 obtain ⟨g0, o0, hA, hg0, z1, z2⟩ := RdC.at_ hr h0
 subst hA
 obtain ⟨u, hu⟩ : ∃ u, xs[0].1 = u := ⟨_, rfl⟩
 obtain ⟨v, hv⟩ : ∃ v, xs[0].2 = v := ⟨_, rfl⟩
 rw [hu] at z1
 rw [hv] at z2
 simp only [Nat.zero_mul, Nat.add_zero] at z1 z2
 have H1 : Hid (minTo (·.1) xs 0 = u) := by show (xs.getD 0 default).1 = u; rw [getD_in xs h0, hu]
 have H2 : Hid (minTo (·.2) xs 0 = v) := by show (xs.getD 0 default).2 = v; rw [getD_in xs h0, hv]
 have hn0 : (0 : Int) < (n : Int) := by omega
 have hn00 : 0 < n := by omega
 clear hl hs hms hr hV hu hv hsm
 go_enter Tryz.func104, Tryz.ntmps104
 go_wp2_with fail
 (refine wp_region_below (by kernel_rfl) (by kernel_rfl) ?_; (repeat (first | go_big_quiet_skip | (refine quietV (v := ?_) (by rfl) rfl (fun w' hbw => ?_) ?_; rotate_left; ((try dsimp only at hbw); have hbc := (bcell hbw).1; have hbf := (bcell hbw).2; go_simp; first | done | with_reducible rfl | fail); simp only [sq1, sq2, sq3]))); refine wpQuiet_nil ?_; intro wq hbq)
 clear z1 z2
 go_wp2_with fail
 go_loopw [17, 3, 4] (fun e17 e3 e4 wr => ∃ (k : Nat) (px py : Int), k ≤ n ∧ e17 = .int .i64 k ∧ e3 = .int .i64 px ∧ e4 = .int .i64 py ∧ minTo (·.1) xs k = px ∧ minTo (·.2) xs k = py ∧ Below w.heap.size w wr) (fun e17 _ _ _ => n - (intOf e17).toNat)
 case atStart => exact ⟨0, u, v, Nat.zero_le _, rfl, rfl, rfl, H1.out, H2.out, hbq⟩
 case round =>
  obtain ⟨k, px, py, hk, rfl, rfl, rfl, hpx, hpy, hb⟩ := hrel
  have HPX := Lib.hid hpx
  have HPY := Lib.hid hpy
  clear hpx hpy
  by_cases hlt : k < n
  ·have hkl : k < xs.length := by rw [HL.out]; exact hlt
   have hk0 : (0 : Int) ≤ (k : Int) := by omega
   have hk1 : (k : Int) < (n : Int) := by omega
   obtain ⟨g, off, he, hg, d1, d2⟩ := RdC.at_ (HR.out.below hb) hkl
   simp only [Option.some.injEq, Addr.mk.injEq, and_true] at he
   obtain ⟨rfl, rfl⟩ := he
   obtain ⟨p, hp⟩ : ∃ p, xs[k].1 = p := ⟨_, rfl⟩
   obtain ⟨q, hq⟩ : ∃ q, xs[k].2 = q := ⟨_, rfl⟩
   rw [hp] at d1
   rw [hq] at d2
   have S1 : Hid (minTo (·.1) xs (k + 1) = if p < px then p else px) := by show minTo (·.1) xs (k + 1) = _; unfold minTo; rw [getD_in xs hkl, hp, HPX.out]
   have S2 : Hid (minTo (·.2) xs (k + 1) = if q < py then q else py) := by show minTo (·.2) xs (k + 1) = _; unfold minTo; rw [getD_in xs hkl, hq, HPY.out]
   clear hp hq
   by_cases h1 : p < px
   ·by_cases h2 : q < py
    ·have T1 : Hid (minTo (·.1) xs (k + 1) = p) := by show _ = _; rw [S1.out]; exact if_pos h1
     have T2 : Hid (minTo (·.2) xs (k + 1) = q) := by show _ = _; rw [S2.out]; exact if_pos h2
     go_wp2_with fail
     (refine wp_region_below (by kernel_rfl) (by kernel_rfl) ?_; (repeat (first | go_big_quiet_skip | (refine quietV (v := ?_) (by rfl) rfl (fun w' hbw => ?_) ?_; rotate_left; ((try dsimp only at hbw); have hbc := (bcell hbw).1; have hbf := (bcell hbw).2; go_simp; first | done | with_reducible rfl | fail); simp only [sq1, sq2, sq3]))); refine wpQuiet_nil ?_; intro wq hbq)
     go_wp2_with fail
     exact ⟨⟨k + 1, p, q, by omega, by go_num, by first | rfl | (simp <;> omega), by first | rfl | (simp <;> omega), T1.out, T2.out, bel_trans (bel_alloc hb _) hbq⟩, by simp [intOf]; omega⟩
    ·have T1 : Hid (minTo (·.1) xs (k + 1) = p) := by show _ = _; rw [S1.out]; exact if_pos h1
     have T2 : Hid (minTo (·.2) xs (k + 1) = py) := by show _ = _; rw [S2.out]; exact if_neg h2
     go_wp2_with fail
     (refine wp_region_below (by kernel_rfl) (by kernel_rfl) ?_; (repeat (first | go_big_quiet_skip | (refine quietV (v := ?_) (by rfl) rfl (fun w' hbw => ?_) ?_; rotate_left; ((try dsimp only at hbw); have hbc := (bcell hbw).1; have hbf := (bcell hbw).2; go_simp; first | done | with_reducible rfl | fail); simp only [sq1, sq2, sq3]))); refine wpQuiet_nil ?_; intro wq hbq)
     go_wp2_with fail
     exact ⟨⟨k + 1, p, py, by omega, by go_num, by first | rfl | (simp <;> omega), by first | rfl | (simp <;> omega), T1.out, T2.out, bel_trans (bel_alloc hb _) hbq⟩, by simp [intOf]; omega⟩
   ·by_cases h2 : q < py
    ·have T1 : Hid (minTo (·.1) xs (k + 1) = px) := by show _ = _; rw [S1.out]; exact if_neg h1
     have T2 : Hid (minTo (·.2) xs (k + 1) = q) := by show _ = _; rw [S2.out]; exact if_pos h2
     go_wp2_with fail
     (refine wp_region_below (by kernel_rfl) (by kernel_rfl) ?_; (repeat (first | go_big_quiet_skip | (refine quietV (v := ?_) (by rfl) rfl (fun w' hbw => ?_) ?_; rotate_left; ((try dsimp only at hbw); have hbc := (bcell hbw).1; have hbf := (bcell hbw).2; go_simp; first | done | with_reducible rfl | fail); simp only [sq1, sq2, sq3]))); refine wpQuiet_nil ?_; intro wq hbq)
     go_wp2_with fail
     exact ⟨⟨k + 1, px, q, by omega, by go_num, by first | rfl | (simp <;> omega), by first | rfl | (simp <;> omega), T1.out, T2.out, bel_trans (bel_alloc hb _) hbq⟩, by simp [intOf]; omega⟩
    ·have T1 : Hid (minTo (·.1) xs (k + 1) = px) := by show _ = _; rw [S1.out]; exact if_neg h1
     have T2 : Hid (minTo (·.2) xs (k + 1) = py) := by show _ = _; rw [S2.out]; exact if_neg h2
     go_wp2_with fail
     (refine wp_region_below (by kernel_rfl) (by kernel_rfl) ?_; (repeat (first | go_big_quiet_skip | (refine quietV (v := ?_) (by rfl) rfl (fun w' hbw => ?_) ?_; rotate_left; ((try dsimp only at hbw); have hbc := (bcell hbw).1; have hbf := (bcell hbw).2; go_simp; first | done | with_reducible rfl | fail); simp only [sq1, sq2, sq3]))); refine wpQuiet_nil ?_; intro wq hbq)
     go_wp2_with fail
     exact ⟨⟨k + 1, px, py, by omega, by go_num, by first | rfl | (simp <;> omega), by first | rfl | (simp <;> omega), T1.out, T2.out, bel_trans (bel_alloc hb _) hbq⟩, by simp [intOf]; omega⟩
  ·obtain rfl : k = n := by omega
   have hk1 : ¬ (k : Int) < (k : Int) := by omega
   have hms := HMS.out k (Nat.le_refl _)
   rw [HPX.out, HPY.out] at hms
   obtain ⟨⟨q1, q2⟩, q3, q4⟩ := hms
   have e1 : IntKind.i64.wrap (-px) = -px := Go.IntWalk.i64_in _ (by omega)
   have e2 : IntKind.i64.wrap (-py) = -py := Go.IntWalk.i64_in _ (by omega)
   go_wp2_with fail
   refine (moved_i _ k c xs (-px) (-py) _ (HR.out.below hb) HL.out (by omega) HS.out (by omega) (by omega)).mono ?_
   rintro e w1 ⟨D, m, cD, rfl, ho, hb1⟩
   have hm : m = k := by have := own_len ho; rw [vC_length, mv_len, HL.out] at this; omega
   subst hm
   have HO := Lib.hid ho
   clear ho
   go_wp2_with fail
   refine (SortCells_i D m cD _ _ (Rd.of_own HO.out) (by rw [mv_len]; exact HL.out) hn1 hn).mono ?_
   rintro e w2 ⟨E, m2, cE, rfl, ho2, hb2⟩
   rw [← HPX.out, ← HPY.out, ← HV.out] at ho2
   have HO2 := Lib.hid (own_base (base' := w.heap.size) ho2 (by have := hb.size; have := hb1.size; omega))
   clear ho2
   go_wp2_with fail
   go_ret
   exact ⟨_, _, _, rfl, HO2.out, bel_trans (bel_trans hb hb1) hb2⟩
end

section
attribute [local go_sem ↓] Go.wp_at_zero Go.wp_at_succ
theorem carry_i (x y : Int) (m : Nat) (w : World) (hq : in7 1000 (x, y)) (hm : m < 8) :
  Calls Tryz.prog 180 #[.agg #[.int .i64 x, .int .i64 y], .int .i64 (m : Int)] w (Ret w (.agg #[.int .i64 (motC m (x, y)).1, .int .i64 (motC m (x, y)).2])) := by
 obtain ⟨r, hr⟩ : ∃ r, m % 4 = r := ⟨_, rfl⟩
 have hr4 : r < 4 := by omega
 have hmr : (m : Int) % 4 = (r : Int) := by omega
 have hm0 : (0 : Int) ≤ (m : Int) := by omega
 have hm7 : (m : Int) ≤ 7 := by omega
 obtain ⟨⟨h1, h2⟩, h3, h4⟩ := id hq
 simp only at h1 h2 h3 h4
 have HOK := Lib.hid (in7_flip hq m)
 have HC : Hid (motC m (x, y) = rotC r (flipC m (x, y))) := by show motC m (x, y) = _; unfold motC; rw [hr]
 have ex : IntKind.i64.wrap (-x) = -x := Go.IntWalk.i64_in _ (by omega)
 clear hr hq
 by_cases h4m : 4 ≤ m
 ·have HST : Hid (rotC 0 (flipC m (x, y)) = (-x, y)) := by show flipC m (x, y) = _; unfold flipC; rw [if_pos h4m]
  have h4i : (m : Int) ≥ 4 := by omega
  go_enter Tryz.func180, Tryz.ntmps180
  go_wp2
  go_loopw [13] (fun e13 wr => ∃ (j : Nat) (x' y' : Int), j ≤ r ∧ e13 = .int .i64 j ∧ rotC j (flipC m (x, y)) = (x', y') ∧ Blk wr w.heap.size 87 #[.int .i64 x', .int .i64 y'] ∧ Blk wr (w.heap.size + 1) 87 #[.int .i64 0, .int .i64 0] ∧ Below w.heap.size w wr) (fun e13 _ => r - (intOf e13).toNat)
  case atStart =>
   have hb1 : Blk ((w.alloc (.cells #[.int .i64 (-x), .int .i64 y] 87)).alloc (.cells #[.int .i64 0, .int .i64 0] 87)) w.heap.size 87 #[.int .i64 (-x), .int .i64 y] := (Blk.new w 87 #[.int .i64 (-x), .int .i64 y]).alloc _
   have hb2 : Blk ((w.alloc (.cells #[.int .i64 (-x), .int .i64 y] 87)).alloc (.cells #[.int .i64 0, .int .i64 0] 87)) (w.heap.size + 1) 87 #[.int .i64 0, .int .i64 0] := by
    have h := Blk.new (w.alloc (.cells #[.int .i64 (-x), .int .i64 y] 87)) 87 #[.int .i64 0, .int .i64 0]
    rw [show (w.alloc (.cells #[.int .i64 (-x), .int .i64 y] 87)).heap.size = w.heap.size + 1 from by simp] at h
    exact h
   exact ⟨0, (-x), y, Nat.zero_le _, rfl, HST.out, hb1, hb2, (by (repeat (first | with_reducible exact Below.refl _ _ | with_reducible assumption | with_reducible apply bel_alloc | with_reducible apply bel_drew | with_reducible apply bel_drewN | ((with_reducible refine bel_set ?_ ?_); rotate_left; (simp <;> omega)) | (with_reducible refine bel_trans ?_ (by with_reducible assumption)))))⟩
  case round =>
   obtain ⟨j, x', y', hj, rfl, hrot, hB, hB2, hb⟩ := hrel
   have ho : in7 1000 (x', y') := by rw [← hrot]; exact in7_rot HOK.out j
   obtain ⟨⟨k1, k2⟩, k3, k4⟩ := ho
   simp only at k1 k2 k3 k4
   have en : IntKind.i64.wrap (-y') = -y' := Go.IntWalk.i64_in _ (by omega)
   have c0 : wr.cell? ⟨w.heap.size, 0, none⟩ = some (.int .i64 x') := by simpa using hB.cell 0
   have c1 : wr.cell? ⟨w.heap.size, 1, none⟩ = some (.int .i64 y') := by simpa using hB.cell 1
   have f0 := hB.frozen 0
   have f1 := hB.frozen 1
   have d0 : wr.cell? ⟨w.heap.size + 1, 0, none⟩ = some (.int .i64 0) := by simpa using hB2.cell 0
   have d1 : wr.cell? ⟨w.heap.size + 1, 1, none⟩ = some (.int .i64 0) := by simpa using hB2.cell 1
   have fd0 := hB2.frozen 0
   have fd1 := hB2.frozen 1
   by_cases hlt : j < r
   ·have hj1 : (j : Int) < (r : Int) := by omega
    have HR : Hid (rotC (j + 1) (flipC m (x, y)) = (-y', x')) := by show (-(rotC j _).2, (rotC j _).1) = _; rw [hrot]
    have hS : Blk ((wr.setCell ⟨w.heap.size, 0, none⟩ (.int .i64 (-y'))).setCell ⟨w.heap.size, 1, none⟩ (.int .i64 x')) w.heap.size 87 #[.int .i64 (-y'), .int .i64 x'] := by simpa using (hB.set_ 0 (.int .i64 (-y'))).set_ 1 (.int .i64 x')
    have hS2 : Blk ((wr.setCell ⟨w.heap.size, 0, none⟩ (.int .i64 (-y'))).setCell ⟨w.heap.size, 1, none⟩ (.int .i64 x')) (w.heap.size + 1) 87 #[.int .i64 0, .int .i64 0] := (hB2.far (by simp) _).far (by simp) _
    have HS := Lib.hid hS
    have HS2 := Lib.hid hS2
    clear hrot hB hB2 hS hS2
    go_wp2
    exact ⟨⟨j + 1, -y', x', by omega, by go_num, HR.out, HS.out, HS2.out, (by (repeat (first | with_reducible exact Below.refl _ _ | with_reducible assumption | with_reducible apply bel_alloc | with_reducible apply bel_drew | with_reducible apply bel_drewN | ((with_reducible refine bel_set ?_ ?_); rotate_left; (simp <;> omega)) | (with_reducible refine bel_trans ?_ (by with_reducible assumption)))))⟩, by simp [intOf]; omega⟩
   ·have hjr : j = r := by omega
    subst hjr
    have HV : Hid (motC m (x, y) = (x', y')) := by show motC m (x, y) = _; rw [HC.out, hrot]
    have hj1 : ¬ (j : Int) < (j : Int) := by omega
    clear hrot hB hB2
    go_wp2
    exact bodyPost_ret (v := .agg #[.int .i64 x', .int .i64 y']) (by simp [results, Tryz.results180, go_sem, d0, d1]) rfl ⟨by rw [HV.out], (by (repeat (first | with_reducible exact Below.refl _ _ | with_reducible assumption | with_reducible apply bel_alloc | with_reducible apply bel_drew | with_reducible apply bel_drewN | ((with_reducible refine bel_set ?_ ?_); rotate_left; (simp <;> omega)) | (with_reducible refine bel_trans ?_ (by with_reducible assumption)))))⟩
 ·have HST : Hid (rotC 0 (flipC m (x, y)) = (x, y)) := by show flipC m (x, y) = _; unfold flipC; rw [if_neg h4m]
  have h4i : ¬ (m : Int) ≥ 4 := by omega
  go_enter Tryz.func180, Tryz.ntmps180
  go_wp2
  go_loopw [13] (fun e13 wr => ∃ (j : Nat) (x' y' : Int), j ≤ r ∧ e13 = .int .i64 j ∧ rotC j (flipC m (x, y)) = (x', y') ∧ Blk wr w.heap.size 87 #[.int .i64 x', .int .i64 y'] ∧ Blk wr (w.heap.size + 1) 87 #[.int .i64 0, .int .i64 0] ∧ Below w.heap.size w wr) (fun e13 _ => r - (intOf e13).toNat)
  case atStart =>
   have hb1 : Blk ((w.alloc (.cells #[.int .i64 x, .int .i64 y] 87)).alloc (.cells #[.int .i64 0, .int .i64 0] 87)) w.heap.size 87 #[.int .i64 x, .int .i64 y] := (Blk.new w 87 #[.int .i64 x, .int .i64 y]).alloc _
   have hb2 : Blk ((w.alloc (.cells #[.int .i64 x, .int .i64 y] 87)).alloc (.cells #[.int .i64 0, .int .i64 0] 87)) (w.heap.size + 1) 87 #[.int .i64 0, .int .i64 0] := by
    have h := Blk.new (w.alloc (.cells #[.int .i64 x, .int .i64 y] 87)) 87 #[.int .i64 0, .int .i64 0]
    rw [show (w.alloc (.cells #[.int .i64 x, .int .i64 y] 87)).heap.size = w.heap.size + 1 from by simp] at h
    exact h
   exact ⟨0, x, y, Nat.zero_le _, rfl, HST.out, hb1, hb2, (by (repeat (first | with_reducible exact Below.refl _ _ | with_reducible assumption | with_reducible apply bel_alloc | with_reducible apply bel_drew | with_reducible apply bel_drewN | ((with_reducible refine bel_set ?_ ?_); rotate_left; (simp <;> omega)) | (with_reducible refine bel_trans ?_ (by with_reducible assumption)))))⟩
  case round =>
   obtain ⟨j, x', y', hj, rfl, hrot, hB, hB2, hb⟩ := hrel
   have ho : in7 1000 (x', y') := by rw [← hrot]; exact in7_rot HOK.out j
   obtain ⟨⟨k1, k2⟩, k3, k4⟩ := ho
   simp only at k1 k2 k3 k4
   have en : IntKind.i64.wrap (-y') = -y' := Go.IntWalk.i64_in _ (by omega)
   have c0 : wr.cell? ⟨w.heap.size, 0, none⟩ = some (.int .i64 x') := by simpa using hB.cell 0
   have c1 : wr.cell? ⟨w.heap.size, 1, none⟩ = some (.int .i64 y') := by simpa using hB.cell 1
   have f0 := hB.frozen 0
   have f1 := hB.frozen 1
   have d0 : wr.cell? ⟨w.heap.size + 1, 0, none⟩ = some (.int .i64 0) := by simpa using hB2.cell 0
   have d1 : wr.cell? ⟨w.heap.size + 1, 1, none⟩ = some (.int .i64 0) := by simpa using hB2.cell 1
   have fd0 := hB2.frozen 0
   have fd1 := hB2.frozen 1
   by_cases hlt : j < r
   ·have hj1 : (j : Int) < (r : Int) := by omega
    have HR : Hid (rotC (j + 1) (flipC m (x, y)) = (-y', x')) := by show (-(rotC j _).2, (rotC j _).1) = _; rw [hrot]
    have hS : Blk ((wr.setCell ⟨w.heap.size, 0, none⟩ (.int .i64 (-y'))).setCell ⟨w.heap.size, 1, none⟩ (.int .i64 x')) w.heap.size 87 #[.int .i64 (-y'), .int .i64 x'] := by simpa using (hB.set_ 0 (.int .i64 (-y'))).set_ 1 (.int .i64 x')
    have hS2 : Blk ((wr.setCell ⟨w.heap.size, 0, none⟩ (.int .i64 (-y'))).setCell ⟨w.heap.size, 1, none⟩ (.int .i64 x')) (w.heap.size + 1) 87 #[.int .i64 0, .int .i64 0] := (hB2.far (by simp) _).far (by simp) _
    have HS := Lib.hid hS
    have HS2 := Lib.hid hS2
    clear hrot hB hB2 hS hS2
    go_wp2
    exact ⟨⟨j + 1, -y', x', by omega, by go_num, HR.out, HS.out, HS2.out, (by (repeat (first | with_reducible exact Below.refl _ _ | with_reducible assumption | with_reducible apply bel_alloc | with_reducible apply bel_drew | with_reducible apply bel_drewN | ((with_reducible refine bel_set ?_ ?_); rotate_left; (simp <;> omega)) | (with_reducible refine bel_trans ?_ (by with_reducible assumption)))))⟩, by simp [intOf]; omega⟩
   ·have hjr : j = r := by omega
    subst hjr
    have HV : Hid (motC m (x, y) = (x', y')) := by show motC m (x, y) = _; rw [HC.out, hrot]
    have hj1 : ¬ (j : Int) < (j : Int) := by omega
    clear hrot hB hB2
    go_wp2
    exact bodyPost_ret (v := .agg #[.int .i64 x', .int .i64 y']) (by simp [results, Tryz.results180, go_sem, d0, d1]) rfl ⟨by rw [HV.out], (by (repeat (first | with_reducible exact Below.refl _ _ | with_reducible assumption | with_reducible apply bel_alloc | with_reducible apply bel_drew | with_reducible apply bel_drewN | ((with_reducible refine bel_set ?_ ?_); rotate_left; (simp <;> omega)) | (with_reducible refine bel_trans ?_ (by with_reducible assumption)))))⟩
theorem map_take {α β : Type} (f : α → β) (xs : List α) (k : Nat) (hk : k < xs.length) : (xs.take (k + 1)).map f = (xs.take k).map f ++ [f xs[k]] := by
 rw [List.take_succ_eq_append_getElem hk, List.map_append]; rfl
theorem turned_i (A : Option Addr) (n c : Nat) (xs : List C) (m : Nat) (w : World) (hr : Rd w A (vC xs)) (hl : xs.length = n) (hs : isShape xs = true) (hm : m < 8) :
  Calls Tryz.prog 139 #[.slice A n c, .int .i64 (m : Int)] w (RetS w 87 2 (vC (turnV xs m))) := by
 have hn8 := shape_len hs
 have hti := turn_in hs m
 have hob := shape_onB hs
 rw [hl] at hn8
 obtain ⟨hn1, hn8⟩ := hn8
 have HL := Lib.hid hl
 have HR := Lib.hid hr
 have HTI := Lib.hid hti
 have HOB := Lib.hid hob
 clear hl hr hs hti hob
 go_enter Tryz.func139, Tryz.ntmps139
 go_wp2
 go_loopw [10, 5] (fun e10 e5 wr => ∃ (k cq : Nat) (D : Option Addr), k ≤ n ∧ e10 = .int .i64 k ∧ e5 = .slice D k cq ∧ wr.ownsRow w.heap.size 87 2 (.slice D k cq) k (vC ((xs.take k).map (motC m))) ∧ Below w.heap.size w wr) (fun e10 _ _ => n - (intOf e10).toNat)
 case atStart => exact ⟨0, 0, none, Nat.zero_le _, rfl, rfl, own_nil _ _ _ _, Below.refl _ _⟩
 case round =>
  obtain ⟨k, cq, D, hk, rfl, rfl, hown, hb⟩ := hrel
  by_cases hlt : k < n
  ·have hkl : k < xs.length := by rw [HL.out]; exact hlt
   have hk0 : (0 : Int) ≤ (k : Int) := by omega
   have hk1 : (k : Int) < (n : Int) := by omega
   obtain ⟨g, off, hA, hg, d1, d2⟩ := RdC.at_ (HR.out.below hb) hkl
   subst hA
   have hst := map_take (motC m) xs k hkl
   have h7 := in7_onB (HOB.out _ (List.getElem_mem hkl))
   obtain ⟨p, hp⟩ : ∃ p, xs[k].1 = p := ⟨_, rfl⟩
   obtain ⟨q, hq⟩ : ∃ q, xs[k].2 = q := ⟨_, rfl⟩
   rw [show xs[k] = (p, q) from Prod.ext hp hq] at hst h7
   rw [hp] at d1
   rw [hq] at d2
   have hK : in7 1000 (p, q) := by unfold in7 at h7 ⊢; simp only at h7 ⊢; omega
   obtain ⟨⟨x', y'⟩, hxy⟩ : ∃ z, motC m (p, q) = z := ⟨_, rfl⟩
   rw [hxy] at hst
   have HCA : Hid (∀ w0, Calls Tryz.prog 180 #[.agg #[.int .i64 p, .int .i64 q], .int .i64 (m : Int)] w0 (Ret w0 (.agg #[.int .i64 x', .int .i64 y']))) := fun w0 => by
    have h := carry_i p q m w0 hK hm
    rw [hxy] at h
    exact h
   have HST := Lib.hid hst
   have HO := Lib.hid hown
   clear hst hown hp hq h7 hxy hK
   go_wp2_with fail
   refine (HCA.out _).mono ?_
   rintro e w2 ⟨rfl, hb2⟩
   have hb02 := bel_trans (bel_alloc hb (.cells #[.int .i64 p, .int .i64 q] 87)) hb2
   have HO2 := Lib.hid (own_keep (HO.out.alloc (.cells #[.int .i64 p, .int .i64 q] 87)) hb2)
   have hbz := hb02.size
   clear d1 d2
   go_wp2_with (at_builtin; go_must (refine app_C _ rfl _ _ rfl w.heap.size _ _ _ _ rfl (HO2.out.alloc _) _ _ _ [(x', y')] rfl (rd_newC _ _ _ _) rfl (by omega) (by simp; omega) ?_); intro D2 cp2 w8 ho8 hg8 hat8; have HO8 := Lib.hid ho8; have HG8 := Lib.hid hg8; clear ho8 hg8 hat8)
   exact ⟨⟨k + 1, cp2, D2, by omega, by go_num, rfl, by rw [HST.out]; exact HO8.out, bel_app (bel_alloc hb02 _) HG8.out (fun g' hg1 => ((own_lt HO2.out) g' hg1).1)⟩, by simp [intOf]; omega⟩
  ·obtain rfl : k = n := by omega
   rw [List.take_of_length_le (by rw [HL.out]; omega)] at hown
   have HO := Lib.hid hown
   have hk1 : ¬ (k : Int) < (k : Int) := by omega
   clear hown
   go_wp2_with fail
   refine (corner_i D k cq (xs.map (motC m)) _ (Rd.of_own HO.out) (by rw [List.length_map]; exact HL.out) hn1 (by omega) (fun d hd => by have := HTI.out d hd; unfold in7 at this; unfold small; omega)).mono ?_
   rintro e w2 ⟨E, q, ce, rfl, hO2, hb2⟩
   have HO2 := Lib.hid hO2
   have hbz := hb.size
   clear hO2
   go_wp2_with fail
   go_ret
   exact ⟨E, q, ce, rfl, own_base HO2.out hbz, bel_trans hb hb2⟩
theorem putV_eq {F : List (List C)} (h : IncG ltS F) (f : List C) : putB ltS F f = putG ltS F f := by
 obtain ⟨h1, h2⟩ := putB_inc ltS_sto h f
 obtain ⟨h3, h4⟩ := putG_inc ltS_sto h f
 exact incG_eq ltS_sto _ _ h1 h3 fun x => by rw [h2, h4]
theorem OrientationsOf_i (A : Option Addr) (n c : Nat) (xs : List C) (w : World) (hr : Rd w A (vC xs)) (hl : xs.length = n) (hs : isShape xs = true) :
  Calls Tryz.prog 176 #[.slice A n c] w (RetF w (orV xs)) := by
 have hn8 := (shape_len hs).2
 rw [hl] at hn8
 have hV : orV xs = orTo xs 8 := by unfold orV; rw [if_pos hs]
 have HTL : Hid (∀ m, 1 ≤ (turnV xs m).length ∧ (turnV xs m).length ≤ 8) := fun m => turn_len hs m
 have hmem := orTo_mem xs
 have HME : Hid (∀ k, ∀ x ∈ orTo xs k, x.length ≤ 1048576) := fun k x hx => by
  obtain ⟨m, _, rfl⟩ := hmem k x hx
  have := (turn_len hs m).2
  omega
 have HV := Lib.hid hV
 have HL := Lib.hid hl
 have HR := Lib.hid hr
 have HS := Lib.hid hs
 clear hl hr hs hV hmem
 go_enter Tryz.func176, Tryz.ntmps176
 go_wp2_with fail
 refine (IsShape_i A n c xs _ HR.out HL.out (by omega)).mono ?_
 rw [HS.out]
 rintro e w1 ⟨rfl, hb1⟩
 have hbz := hb1.size
 go_wp2_with fail
 go_loopw [8, 3] (fun e8 e3 wr => ∃ (m q cq : Nat) (D : Option Addr) (hs : List H), m ≤ 8 ∧ e8 = .int .i64 m ∧ e3 = .slice D q cq ∧ OwnF w1.heap.size wr D q cq hs (orTo xs m) ∧ Below w1.heap.size w1 wr) (fun e8 _ _ => 8 - (intOf e8).toNat)
 case atStart => exact ⟨0, 0, 0, none, [], Nat.zero_le _, rfl, rfl, OwnF.nil _ _, Below.refl _ _⟩
 case round =>
  obtain ⟨m, q, cq, D, hs, hm, rfl, rfl, hO, hb⟩ := hrel
  have hql : (orTo xs m).length = q := hO.flen
  have hol := orTo_len xs m
  have hinc := orTo_inc xs m
  have HINC := Lib.hid hinc
  have hb01 := bel_trans hb1 hb
  have HO := Lib.hid hO
  clear hO hinc
  by_cases hlt : m < 8
  ·have hm0 : (0 : Int) ≤ (m : Int) := by omega
   have hm1 : (m : Int) < 8 := by omega
   have hst : orTo xs (m + 1) = putB ltS (orTo xs m) (turnV xs m) := by show putG ltS _ _ = _; rw [putV_eq HINC.out]
   have hme := HME.out m
   have htl := HTL.out m
   obtain ⟨F, hF⟩ : ∃ F, orTo xs m = F := ⟨_, rfl⟩
   obtain ⟨t, ht⟩ : ∃ t, turnV xs m = t := ⟨_, rfl⟩
   have HTU : Hid (∀ w0, Rd w0 A (vC xs) → Calls Tryz.prog 139 #[.slice A n c, .int .i64 (m : Int)] w0 (RetS w0 87 2 (vC t))) := fun w0 h => by
    have h2 := turned_i A n c xs m w0 h HL.out HS.out hlt
    rw [ht] at h2
    exact h2
   rw [hF, ht] at hst
   rw [hF] at hme hql HO HINC hol
   rw [ht] at htl
   have HST := Lib.hid hst
   have HMF := Lib.hid hme
   clear hst hF ht hme
   go_wp2_with fail
   refine (HTU.out _ (HR.out.below hb01)).mono ?_
   rintro e w2 ⟨E, q2, c2, rfl, hT, hb2⟩
   have hq2 : t.length = q2 := by have := own_len hT; rw [vC_length] at this; omega
   have hO2 := HO.out.below hb2
   have hb12 := bel_trans hb hb2
   have HO2 := Lib.hid hO2
   have HCR := Lib.hid (CRow.of_own hT)
   have hz2 := hb12.size
   clear hO2 hT HO
   go_wp2_with fail
   refine (putShape_i D q cq hs F E q2 c2 t w1.heap.size _ HO2.out HCR.out HINC.out HMF.out (by omega) (by omega) hz2).mono ?_
   rintro e w3 ⟨D3, n3, c3, hs3, rfl, hO3, hg3, hD3⟩
   have HO3 := Lib.hid hO3
   have hb13 : Below w1.heap.size w1 w3 := bel_app hb12 hg3 (fun g e => (own_lt HO2.out.own g e).1)
   clear hO3 hD3
   go_wp2_with fail
   exact ⟨⟨m + 1, n3, c3, D3, hs3, by omega, by go_num, rfl, by rw [HST.out]; exact HO3.out, hb13⟩, by simp [intOf]; omega⟩
  ·obtain rfl : m = 8 := by omega
   rw [← HV.out] at HO
   have hm1 : ¬ ((8 : Nat) : Int) < 8 := by omega
   go_wp2_with fail
   go_ret
   exact ⟨D, q, cq, hs, rfl, HO.out.mono hbz, hb01⟩
end

section
attribute [local go_sem ↓] Go.wp_at_zero Go.wp_at_succ
def SortP (w : World) (base : Nat) (A : Option Addr) (n c : Nat) (l : List Int) (e : Ending) (w' : World) : Prop := e = .returned (.tuple #[]) ∧ w'.ownsRow base 3 1 (.slice A n c) n (vI (srt l)) ∧ w.grownBy w' (ob A)
theorem sortInts (A : Option Addr) (n c base : Nat) (l : List Int) (w : World) (ho : w.ownsRow base 3 1 (.slice A n c) n (vI l)) (hn : n ≤ 1099511627776) :
  Calls Tryz.prog 178 #[.slice A n c] w (SortP w base A n c l) := by
 have hl : l.length = n := by have := own_len ho; rw [vI_length] at this; omega
 rcases ho.2 with ⟨hv, h0⟩ | ⟨g, cap, cur, hv, hb, hg, hnc, hcm, hcs, ht⟩
 ·injection hv with hA hn0 hc0
  subst hA hn0 hc0
  have e : l = [] := List.eq_nil_of_length_eq_zero hl
  subst e
  refine (Tryz.sort_Ints_none none 0 w).mono ?_
  rintro e w' ⟨rfl, rfl⟩
  exact ⟨rfl, by rw [show srt [] = [] from by simp [srt]]; exact ho, World.grownBy.refl _ _⟩
 ·injection hv with hA _ hc
  subst hA hc
  subst hl
  rw [Nat.mul_one] at ht
  refine (Tryz.sort_Ints g 0 c l w (holds_of_blockI hg ht) (Array.getElem?_eq_some_iff.1 hg).1 (by omega)).mono ?_
  rintro e w' ⟨rfl, k, os, rfl⟩
  exact ⟨rfl, ownsRow_sortedI (srt_len l) hb hg hnc hcm hcs, grownBy_sortedI _⟩
theorem ordered_i (A : Option Addr) (n c : Nat) (xs : List Int) (w : World) (hr : Rd w A (vI xs)) (hl : xs.length = n) (hn : n ≤ 1099511627776) :
  Calls Tryz.prog 133 #[.slice A n c] w (RetS w 3 1 (vI (ord xs))) := by
 have HL := Lib.hid hl
 have HV : Hid (ord xs = dedTo (srt xs) n) := by show ord xs = _; unfold ord; rw [srt_len, hl]
 have HSL : Hid ((srt xs).length = n) := by show (srt xs).length = n; rw [srt_len, hl]
 clear hl
 go_enter Tryz.func133, Tryz.ntmps133
 go_wp2_with fail
 refine (copyInts_i _ _ _ xs _ hr HL.out (by omega)).mono ?_
 rintro e w1 ⟨B, m, cB, rfl, ho, hb1⟩
 have hm : n = m := by have := own_len ho; rw [vI_length] at this; have := HL.out; omega
 subst hm
 have hBlt := own_lt ho
 go_wp2_with fail
 refine (sortInts _ _ _ _ xs _ ho hn).mono ?_
 rintro e w2 ⟨rfl, ho2, hg2⟩
 have hb2 : Below w.heap.size w w2 := bel_app hb1 hg2 (fun g h => (hBlt g h).1)
 have hrd := Rd.of_own ho2
 generalize srt xs = s at HV HSL hrd ho2
 have HO2 := Lib.hid ho2
 clear ho ho2 hg2 hb1
 go_wp2_with fail
 go_loopw [4, 13] (fun e e13 wr => ∃ (k q cp : Nat) (D : Option Addr), k ≤ n ∧ q ≤ k ∧ e = .slice D q cp ∧ e13 = .int .i64 k ∧ wr.ownsRow w2.heap.size 3 1 (.slice D q cp) q (vI (dedTo s k)) ∧ Below w2.heap.size w2 wr) (fun _ e13 _ => n - (intOf e13).toNat)
 case atStart => exact ⟨0, 0, 0, none, by omega, by omega, rfl, rfl, own_nil _ _ _ _, Below.refl _ _⟩
 case round =>
  obtain ⟨k, q, cp, D, hk, hq, rfl, rfl, hown, hb⟩ := hrel
  by_cases hlt : k < n
  ·have hks : k < s.length := by rw [HSL.out]; exact hlt
   have hrw := hrd.below hb
   obtain ⟨g, off, rfl, hg, c1⟩ := RdI.at_ hrw hks
   have hgd : s.getD k 0 = s[k] := by rw [List.getD_eq_getElem?_getD, List.getElem?_eq_getElem hks]; rfl
   have hst : dedTo s (k + 1) = dedTo s k ++ (if keepAt s k then [s.getD k 0] else []) := rfl
   rw [hgd] at hst
   obtain ⟨x, hx⟩ : ∃ x, s[k] = x := ⟨_, rfl⟩
   rw [hx] at c1 hst hgd
   have HO := Lib.hid hown
   have hbs := hb.size
   clear hown hx
   -- the two ways
   have KEEP : Hid (keepAt s k = true → dedTo s (k + 1) = dedTo s k ++ [x]) := fun h => by rw [hst, h]; rfl
   have SKIP : Hid (keepAt s k = false → dedTo s (k + 1) = dedTo s k) := fun h => by rw [hst, h]; simp
   have hka : keepAt s k = (k == 0 || s.getD (k - 1) 0 != x) := by unfold keepAt; rw [hgd]
   have HKA := Lib.hid hka
   clear hst hgd hka
   by_cases hk0 : k = 0
   ·have e0 : ((k : Int) == 0) = true := by simp [hk0]
    have HN := Lib.hid (KEEP.out (by rw [HKA.out, hk0]; rfl))
    have hk1 : (0 : Int) ≤ (k : Int) := by omega
    have hk2 : (k : Int) < (n : Int) := by omega
    clear KEEP SKIP HKA hk0
    go_wp2_with (at_builtin; go_must (refine app_I _ rfl _ _ rfl w2.heap.size _ _ _ _ rfl (HO.out.alloc _) _ _ _ [x] rfl (rd_newI _ _ _) rfl (by omega) (by simp; omega) ?_); intro D2 cp2 w8 ho8 hg8 hat8; have HO8 := Lib.hid ho8; have HG8 := Lib.hid hg8; clear ho8 hg8 hat8)
    exact ⟨⟨k + 1, q + 1, cp2, D2, by omega, by omega, rfl, by go_num, by rw [HN.out]; exact HO8.out, bel_app (bel_alloc hb _) HG8.out (fun g' hg1 => ((own_lt HO.out) g' hg1).1)⟩, by simp [intOf]; omega⟩
   ·obtain ⟨j, hjk⟩ : ∃ j, k = j + 1 := ⟨k - 1, by omega⟩
    have hjs : j < s.length := by omega
    obtain ⟨g', off', he, _, d1⟩ := RdI.at_ hrw hjs
    simp only [Option.some.injEq, Addr.mk.injEq, and_true] at he
    obtain ⟨rfl, rfl⟩ := he
    have hgj : s.getD (k - 1) 0 = s[j] := by rw [hjk, Nat.add_sub_cancel, List.getD_eq_getElem?_getD, List.getElem?_eq_getElem hjs]; rfl
    obtain ⟨y, hy⟩ : ∃ y, s[j] = y := ⟨_, rfl⟩
    rw [hy] at d1 hgj
    have e0 : ((k : Int) == 0) = false := by simp; omega
    have hj1 : (k : Int) - 1 = (j : Int) := by omega
    have hj0 : (0 : Int) ≤ (j : Int) := by omega
    have hjm : (j : Int) < (n : Int) := by omega
    have hk1 : (0 : Int) ≤ (k : Int) := by omega
    have hk2 : (k : Int) < (n : Int) := by omega
    have hkk : (k == 0) = false := by simpa using hk0
    have HKK := Lib.hid hkk
    have HGJ := Lib.hid hgj
    clear hy hgj hjk hkk hk0
    by_cases hyx : y = x
    ·have HN := Lib.hid (SKIP.out (by rw [HKA.out, HKK.out, HGJ.out, hyx]; simp))
     have e1 : (y != x) = false := by simp [hyx]
     clear KEEP SKIP HKA hyx
     go_wp2_with fail
     exact ⟨⟨k + 1, q, cp, D, by omega, by omega, rfl, by go_num, by rw [HN.out]; exact HO.out, hb⟩, by simp [intOf]; omega⟩
    ·have HN := Lib.hid (KEEP.out (by rw [HKA.out, HKK.out, HGJ.out]; simpa using hyx))
     have e1 : (y != x) = true := by simpa using hyx
     clear KEEP SKIP HKA hyx
     go_wp2_with (at_builtin; go_must (refine app_I _ rfl _ _ rfl w2.heap.size _ _ _ _ rfl (HO.out.alloc _) _ _ _ [x] rfl (rd_newI _ _ _) rfl (by omega) (by simp; omega) ?_); intro D2 cp2 w8 ho8 hg8 hat8; have HO8 := Lib.hid ho8; have HG8 := Lib.hid hg8; clear ho8 hg8 hat8)
     exact ⟨⟨k + 1, q + 1, cp2, D2, by omega, by omega, rfl, by go_num, by rw [HN.out]; exact HO8.out, bel_app (bel_alloc hb _) HG8.out (fun g' hg1 => ((own_lt HO.out) g' hg1).1)⟩, by simp [intOf]; omega⟩
  ·have hkn : k = n := by omega
   subst hkn
   rw [← HV.out] at hown
   have HO := Lib.hid (own_base hown hb2.size)
   clear hown
   go_wp2
   go_ret
   exact ⟨_, _, _, rfl, HO.out, (by (repeat (first | with_reducible exact Below.refl _ _ | with_reducible assumption | with_reducible apply bel_alloc | with_reducible apply bel_drew | with_reducible apply bel_drewN | ((with_reducible refine bel_set ?_ ?_); rotate_left; (simp <;> omega)) | (with_reducible refine bel_trans ?_ (by with_reducible assumption)))))⟩
end

section
attribute [local go_sem ↓] Go.wp_at_zero Go.wp_at_succ
theorem mv_small {t : List C} (h : ∀ c ∈ t, (0 ≤ c.1 ∧ c.1 ≤ 14) ∧ (0 ≤ c.2 ∧ c.2 ≤ 14)) {x y : Nat} (hx : x ≤ 6) (hy : y ≤ 6) : ∀ d ∈ mv t (x : Int) (y : Int), small d := by
 intro d hd
 rw [mv_mem] at hd
 have := h _ hd
 simp only at this
 unfold small
 omega
theorem placements_i (W : Int) (A B : Option Addr) (n c k cb : Nat) (rows : List Int) (xs : List C) (w : World) (hr : Rd w A (vI rows)) (hl : rows.length = n) (hv : isReg W rows = true) (hrx : Rd w B (vC xs)) (hlx : xs.length = k) (hs : isShape xs = true) :
  Calls Tryz.prog 132 #[.agg #[.int .i64 W, .slice A n c], .slice B k cb] w (RetS w 3 1 (vI (plV W rows xs))) := by
 have hv0 := hv
 have hPV : plV W rows xs = ord (rawTo W rows (orV xs) (orV xs).length) := by unfold plV; rw [if_pos hv, ord_eq]; rfl
 obtain ⟨m, rfl, hm1, hm6, hn1, hn6, hrow⟩ := isReg_yes hv
 have h36 : m * rows.length ≤ 6 * 6 := Nat.mul_le_mul hm6 hn6
 have hmt : ((m : Int)).toNat = m := Int.toNat_natCast _
 have hfine := orV_fine (s := xs)
 have hol := orV_len xs
 have HLX := Lib.hid hlx
 have HSX := Lib.hid hs
 obtain ⟨F, hF⟩ : ∃ F, orV xs = F := ⟨_, rfl⟩
 rw [hF] at hPV hfine hol
 have HF := Lib.hid hF
 have HPV := Lib.hid hPV
 have HFI := Lib.hid hfine
 have HL := Lib.hid hl
 have HV := Lib.hid hv0
 have HR := Lib.hid (hr.alloc (.cells #[.int .i64 (m : Int), .slice A n c] 26))
 have HRX := Lib.hid (hrx.alloc (.cells #[.int .i64 (m : Int), .slice A n c] 26))
 have H36 : Hid (m * rows.length ≤ 36) := h36
 have HMT := Lib.hid hmt
 rw [hl] at hn1 hn6
 clear hl hr hrow hv hv0 hrx hlx hs h36 hmt hPV hfine hF
 go_enter Tryz.func132, Tryz.ntmps132
 go_wp2_with fail
 refine (OrientationsOf_i B k cb xs _ HRX.out HLX.out HSX.out).mono ?_
 rw [HF.out]
 rintro e w1 ⟨A0, q0, c0, hs, rfl, hO0, hb1⟩
 have HB1 := Lib.hid ((Blk.new w 26 #[.int .i64 (m : Int), .slice A n c]).below hb1)
 have HR1 := Lib.hid (HR.out.below hb1)
 have hbw1 : Below w.heap.size w w1 := bel_trans (bel_alloc (Below.refl _ _) _) hb1
 have HRF := Lib.hid hO0.rd
 have HFL := Lib.hid hO0.flen
 have hq8 : q0 ≤ 8 := by have := hO0.flen; omega
 clear hb1 hO0
 go_wp2_with fail
 go_loopw [15, 5] (fun e15 e5 wr => ∃ (i q cq : Nat) (D : Option Addr), i ≤ q0 ∧ e15 = .int .i64 i ∧ e5 = .slice D q cq ∧ wr.ownsRow w1.heap.size 3 1 (.slice D q cq) q (vI (rawTo (m : Int) rows F i)) ∧ Below w1.heap.size w1 wr) (fun e15 _ _ => q0 - (intOf e15).toNat)
 case atStart => exact ⟨0, 0, 0, none, Nat.zero_le _, rfl, rfl, own_nil _ _ _ _, Below.refl _ _⟩
 case round =>
  obtain ⟨i, q, cq, D, hi, rfl, rfl, hO, hb⟩ := hrel
  have hB := HB1.out.below hb
  have b0 : wr.cell? ⟨w.heap.size, 0, none⟩ = some (.int .i64 (m : Int)) := by simpa using hB.cell 0
  have b1 : wr.cell? ⟨w.heap.size, 1, none⟩ = some (.slice A n c) := by simpa using hB.cell 1
  have hgw := hB.lt
  clear hB
  by_cases hlt : i < q0
  ·have hi0 : (0 : Int) ≤ (i : Int) := by omega
   have hi1 : (i : Int) < (q0 : Int) := by omega
   obtain ⟨x, t, gA, off, hsx, hfx, hAe, hg, d1, hrow⟩ := (HRF.out.below hb).at_ hlt
   have hft := HFI.out t (List.mem_of_getElem? hfx)
   have hstep : rawTo (m : Int) rows F (i + 1) = rawTo (m : Int) rows F i ++ rowY (m : Int) rows t n := by
    show _ ++ rowY _ _ (F.getD i []) rows.length = _
    rw [List.getD_eq_getElem?_getD, hfx, Option.getD_some, HL.out]
   have hol2 := (rawTo_msk H36.out F i).2
   obtain ⟨C1, m1, k1⟩ := x
   have hl1 : t.length = m1 := hrow.1
   obtain ⟨O, hOe⟩ : ∃ O, rawTo (m : Int) rows F i = O := ⟨_, rfl⟩
   rw [hOe] at hstep hO hol2
   have hrt : Rd w1 C1 (vC t) := (HRF.out.row i _ _ hsx hfx).2.1
   have HRT := Lib.hid hrt
   have HL1 := Lib.hid hl1
   have HFT := Lib.hid hft
   have HST := Lib.hid hstep
   have HO := Lib.hid hO
   have hOl : O.length ≤ 288 := by omega
   dsimp only at d1
   subst hAe
   clear hsx hfx hrow hstep hO hl1 hft hOe hrt hol2
   go_wp2_with fail
   go_loopw [22, 5] (fun e22 e5 wr => ∃ (y q cq : Nat) (D : Option Addr), y ≤ n ∧ e22 = .int .i64 y ∧ e5 = .slice D q cq ∧ wr.ownsRow w1.heap.size 3 1 (.slice D q cq) q (vI (O ++ rowY (m : Int) rows t y)) ∧ Below w1.heap.size w1 wr) (fun e22 _ _ => n - (intOf e22).toNat)
   case atStart => exact ⟨0, q, cq, D, Nat.zero_le _, rfl, rfl, by simpa [rowY] using HO.out, hb⟩
   case round =>
    clear HO hb b0 b1 hgw d1 hg
    obtain ⟨y, q, cq, D, hy, rfl, rfl, hO, hb⟩ := hrel
    have hB := HB1.out.below hb
    have b0 : wr.cell? ⟨w.heap.size, 0, none⟩ = some (.int .i64 (m : Int)) := by simpa using hB.cell 0
    have b1 : wr.cell? ⟨w.heap.size, 1, none⟩ = some (.slice A n c) := by simpa using hB.cell 1
    have hgw := hB.lt
    clear hB
    by_cases hly : y < n
    ·have hy0 : (0 : Int) ≤ (y : Int) := by omega
     have hy1 : (y : Int) < (n : Int) := by omega
     have hstY : rowY (m : Int) rows t (y + 1) = rowY (m : Int) rows t y ++ rowX (m : Int) rows t y m := by show _ ++ rowX _ _ _ _ _ = _; rw [HMT.out]
     have hyl := (rowY_msk H36.out t y).2
     obtain ⟨O2, hO2⟩ : ∃ O2, O ++ rowY (m : Int) rows t y = O2 := ⟨_, rfl⟩
     have hstY2 : O ++ rowY (m : Int) rows t (y + 1) = O2 ++ rowX (m : Int) rows t y m := by rw [hstY, ← List.append_assoc, hO2]
     have hO2l : O2.length ≤ 400 := by
      rw [← hO2, List.length_append]
      have : y * m ≤ 6 * 6 := Nat.mul_le_mul (by omega) hm6
      omega
     rw [hO2] at hO
     have HST2 := Lib.hid hstY2
     have HO := Lib.hid hO
     clear hstY hyl hO2 hstY2 hO
     go_wp2_with fail
     go_loopw [27, 5] (fun e27 e5 wr => ∃ (x q cq : Nat) (D : Option Addr), x ≤ m ∧ e27 = .int .i64 x ∧ e5 = .slice D q cq ∧ wr.ownsRow w1.heap.size 3 1 (.slice D q cq) q (vI (O2 ++ rowX (m : Int) rows t y x)) ∧ Below w1.heap.size w1 wr) (fun e27 _ _ => m - (intOf e27).toNat)
     case atStart => exact ⟨0, q, cq, D, Nat.zero_le _, rfl, rfl, by simpa [rowX] using HO.out, hb⟩
     case round =>
      clear HO hb b0 b1 hgw
      obtain ⟨x, q, cq, D, hx, rfl, rfl, hO, hb⟩ := hrel
      have hB := HB1.out.below hb
      have b0 : wr.cell? ⟨w.heap.size, 0, none⟩ = some (.int .i64 (m : Int)) := by simpa using hB.cell 0
      have b1 : wr.cell? ⟨w.heap.size, 1, none⟩ = some (.slice A n c) := by simpa using hB.cell 1
      have hgw := hB.lt
      clear hB
      have hql : (O2 ++ rowX (m : Int) rows t y x).length = q := by have := own_len hO; rw [vI_length] at this; omega
      have hxl := (rowX_msk H36.out t y x).2
      rw [List.length_append] at hql
      have hq500 : q ≤ 500 := by omega
      by_cases hlx : x < m
      ·have hx0 : (0 : Int) ≤ (x : Int) := by omega
       have hx1 : (x : Int) < (m : Int) := by omega
       obtain ⟨r, hmc⟩ : ∃ r, mcV (m : Int) rows (mv t (x : Int) (y : Int)) 0 = r := ⟨_, rfl⟩
       have hstX : O2 ++ rowX (m : Int) rows t y (x + 1) = (O2 ++ rowX (m : Int) rows t y x) ++ optL r := by
        show O2 ++ (_ ++ plAt _ _ _ _ _) = _
        unfold plAt
        rw [hmc, List.append_assoc]
       obtain ⟨O3, hO3⟩ : ∃ O3, O2 ++ rowX (m : Int) rows t y x = O3 := ⟨_, rfl⟩
       rw [hO3] at hstX hO
       have HST3 := Lib.hid hstX
       have HO := Lib.hid hO
       have HMC := Lib.hid hmc
       have HSM : Hid (∀ d ∈ t, small d) := fun d hd => by have := HFT.out.2 d hd; unfold small; omega
       have HSV : Hid (∀ d ∈ mv t (x : Int) (y : Int), small d) := mv_small HFT.out.2 (by omega) (by omega)
       have hm8 : m1 ≤ 8 := by have := HFT.out.1.2; have := HL1.out; omega
       clear hstX hO hmc hO3 hql hxl
       go_wp2_with fail
       refine wp_region_rg 11 rfl (by kernel_rfl) ?_
       (refine rgT (i := 0) (v := ?_) rfl rfl (by kernel_rfl) (by kernel_rfl) (by kernel_rfl) (by rfl) (fun w' hcw => ?_) ?_; rotate_left; ((try dsimp only at hcw); have hbc := hcw.cells; go_simp; first | done | with_reducible rfl); simp only [sq1, sq2, sq3])
       (refine rgT (i := 1) (v := ?_) rfl rfl (by kernel_rfl) (by kernel_rfl) (by kernel_rfl) (by rfl) (fun w' hcw => ?_) ?_; rotate_left; ((try dsimp only at hcw); have hbc := hcw.cells; go_simp; first | done | with_reducible rfl); simp only [sq1, sq2, sq3])
       (refine rgT (i := 2) (v := ?_) rfl rfl (by kernel_rfl) (by kernel_rfl) (by kernel_rfl) (by rfl) (fun w' hcw => ?_) ?_; rotate_left; ((try dsimp only at hcw); have hbc := hcw.cells; go_simp; first | done | with_reducible rfl); simp only [sq1, sq2, sq3])
       (refine rgT (i := 3) (v := ?_) rfl rfl (by kernel_rfl) (by kernel_rfl) (by kernel_rfl) (by rfl) (fun w' hcw => ?_) ?_; rotate_left; ((try dsimp only at hcw); have hbc := hcw.cells; go_simp; first | done | with_reducible rfl); simp only [sq1, sq2, sq3])
       refine rgK_one (i := 4) (by kernel_rfl) rfl rfl (fun u1 hc1 he1 K hK => ?_)
       go_simp
       refine (moved_i C1 m1 k1 t (x : Int) (y : Int) _ ((HRT.out.below hb).below hc1) HL1.out (by omega) HSM.out (by omega) (by omega)).mono ?_
       rintro e u2 ⟨E, q2, cE, rfl, hoM, hbM⟩
       have hq2 : (mv t (x : Int) (y : Int)).length = q2 := by have := own_len hoM; rw [vC_length] at this; omega
       have hc2 : Below wr.heap.size wr u2 := bel_trans hc1 hbM
       refine hK _ _ hc2 ?_
       clear hK K
       have HRM := Lib.hid (Rd.of_own hoM)
       have HQ2 := Lib.hid hq2
       have hq28 : q2 ≤ 8 := by rw [mv_len] at hq2; have := HL1.out; omega
       clear hoM hq2
       refine rgK_one (i := 5) (by kernel_rfl) rfl rfl (fun u3 hc3 he3 K hK => ?_)
       go_simp
       refine (MaskOfCells_i (m : Int) A E n c q2 cE rows (mv t (x : Int) (y : Int)) _ ((HR1.out.below hb).below hc3) HL.out HV.out (HRM.out.below he3) HQ2.out (by omega) HSV.out).mono ?_
       rw [HMC.out]
       rintro e u4 ⟨rfl, hb4⟩
       have hc4 : Below wr.heap.size wr u4 := bel_trans hc3 hb4
       refine hK _ _ hc4 ?_
       clear hK K
       cases r with
       | none =>
        simp only [mcR]
        (refine rgT (i := 6) (v := ?_) rfl rfl (by kernel_rfl) (by kernel_rfl) (by kernel_rfl) (by rfl) (fun w' hcw => ?_) ?_; rotate_left; ((try dsimp only at hcw); have hbc := hcw.cells; go_simp; first | done | with_reducible rfl); simp only [sq1, sq2, sq3])
        (refine rgT (i := 7) (v := ?_) rfl rfl (by kernel_rfl) (by kernel_rfl) (by kernel_rfl) (by rfl) (fun w' hcw => ?_) ?_; rotate_left; ((try dsimp only at hcw); have hbc := hcw.cells; go_simp; first | done | with_reducible rfl); simp only [sq1, sq2, sq3])
        (refine rgT (i := 8) (v := ?_) rfl rfl (by kernel_rfl) (by kernel_rfl) (by kernel_rfl) (by rfl) (fun w' hcw => ?_) ?_; rotate_left; ((try dsimp only at hcw); have hbc := hcw.cells; go_simp; first | done | with_reducible rfl); simp only [sq1, sq2, sq3])
        (refine rgT (i := 9) (v := ?_) rfl rfl (by kernel_rfl) (by kernel_rfl) (by kernel_rfl) (by rfl) (fun w' hcw => ?_) ?_; rotate_left; ((try dsimp only at hcw); have hbc := hcw.cells; go_simp; first | done | with_reducible rfl); simp only [sq1, sq2, sq3])
        (refine rgT (i := 10) (v := ?_) rfl rfl (by kernel_rfl) (by kernel_rfl) (by kernel_rfl) (by rfl) (fun w' hcw => ?_) ?_; rotate_left; ((try dsimp only at hcw); have hbc := hcw.cells; go_simp; first | done | with_reducible rfl); simp only [sq1, sq2, sq3])
        refine ⟨by kernel_rfl, fun wz hcz hez => NoPanic.normal ?_⟩
        go_wp2_with fail
        exact ⟨⟨x + 1, q, cq, D, by omega, by go_num, rfl, by rw [HST3.out]; simpa [optL] using own_keep HO.out hcz, bel_trans hb hcz⟩, by simp [intOf]; omega⟩
       | some v =>
        simp only [mcR]
        (refine rgT (i := 6) (v := ?_) rfl rfl (by kernel_rfl) (by kernel_rfl) (by kernel_rfl) (by rfl) (fun w' hcw => ?_) ?_; rotate_left; ((try dsimp only at hcw); have hbc := hcw.cells; go_simp; first | done | with_reducible rfl); simp only [sq1, sq2, sq3])
        (refine rgT (i := 7) (v := ?_) rfl rfl (by kernel_rfl) (by kernel_rfl) (by kernel_rfl) (by rfl) (fun w' hcw => ?_) ?_; rotate_left; ((try dsimp only at hcw); have hbc := hcw.cells; go_simp; first | done | with_reducible rfl); simp only [sq1, sq2, sq3])
        (refine rgT (i := 8) (v := ?_) rfl rfl (by kernel_rfl) (by kernel_rfl) (by kernel_rfl) (by rfl) (fun w' hcw => ?_) ?_; rotate_left; ((try dsimp only at hcw); have hbc := hcw.cells; go_simp; first | done | with_reducible rfl); simp only [sq1, sq2, sq3])
        (refine rgT (i := 9) (v := ?_) rfl rfl (by kernel_rfl) (by kernel_rfl) (by kernel_rfl) (by rfl) (fun w' hcw => ?_) ?_; rotate_left; ((try dsimp only at hcw); have hbc := hcw.cells; go_simp; first | done | with_reducible rfl); simp only [sq1, sq2, sq3])
        (refine rgT (i := 10) (v := ?_) rfl rfl (by kernel_rfl) (by kernel_rfl) (by kernel_rfl) (by rfl) (fun w' hcw => ?_) ?_; rotate_left; ((try dsimp only at hcw); have hbc := hcw.cells; go_simp; first | done | with_reducible rfl); simp only [sq1, sq2, sq3])
        refine ⟨by kernel_rfl, fun wz hcz hez => NoPanic.normal ?_⟩
        have HOZ := Lib.hid (own_keep HO.out hcz)
        have hbz := bel_trans hb hcz
        have hzz := hbz.size
        clear hcz hez hc4 hb4 hc3 he3 hc2 hbM hc1 he1 b0 b1 hgw
        go_wp2_with (at_builtin; go_must (refine app_I _ rfl _ _ rfl w1.heap.size _ _ _ _ rfl (HOZ.out.alloc _) _ _ _ [(v : Int)] rfl (rd_newI _ _ _) rfl (by omega) (by simp; omega) ?_); intro D2 cp2 w8 ho8 hg8 hat8; have HO8 := Lib.hid ho8; have HG8 := Lib.hid hg8; clear ho8 hg8 hat8)
        exact ⟨⟨x + 1, q + 1, cp2, D2, by omega, by go_num, rfl, by rw [HST3.out]; exact HO8.out, bel_app (bel_alloc hbz _) HG8.out (fun g' hg1 => ((own_lt HOZ.out) g' hg1).1)⟩, by simp [intOf]; omega⟩
      ·obtain rfl : x = m := by omega
       rw [← HST2.out] at hO
       have HO := Lib.hid hO
       have hx1 : ¬ (x : Int) < (x : Int) := by omega
       clear hO hql hxl
       go_wp2_with fail
       exact ⟨⟨y + 1, q, cq, D, by omega, by go_num, rfl, HO.out, hb⟩, by simp [intOf]; omega⟩
    ·obtain rfl : y = n := by omega
     rw [← HST.out] at hO
     have HO := Lib.hid hO
     have hy1 : ¬ (y : Int) < (y : Int) := by omega
     clear hO
     go_wp2_with fail
     exact ⟨⟨i + 1, q, cq, D, by omega, by go_num, rfl, HO.out, hb⟩, by simp [intOf]; omega⟩
  ·obtain rfl : i = q0 := by omega
   have hql : (rawTo (m : Int) rows F i).length = q := by have := own_len hO; rw [vI_length] at this; omega
   have hol2 := (rawTo_msk H36.out F i).2
   have HN : Hid (plV (m : Int) rows xs = ord (rawTo (m : Int) rows F i)) := by show _ = _; rw [HPV.out, HFL.out]
   have HO := Lib.hid hO
   have HQL := Lib.hid hql
   have hq3 : q ≤ 288 := by omega
   have hi1 : ¬ (i : Int) < (i : Int) := by omega
   clear hO hql hol2
   go_wp2_with fail
   refine (ordered_i D q cq (rawTo (m : Int) rows F i) _ (Rd.of_own HO.out) HQL.out (by omega)).mono ?_
   rw [← HN.out]
   rintro e w2 ⟨E, q2, c2, rfl, hO2, hb2⟩
   have HO2 := Lib.hid hO2
   have hb02 := bel_trans hbw1 hb
   have hbz := hb02.size
   clear hO2
   go_wp2_with fail
   go_ret
   exact ⟨E, q2, c2, rfl, own_base HO2.out hbz, bel_trans hb02 hb2⟩
theorem pcs_at {P : List (List C)} (h : pcs P = true) : P.length ≤ 5 ∧ ∀ f ∈ P, isShape f = true := by
 refine ⟨(pcs_small h).1, ?_⟩
 unfold pcs at h
 simp only [Bool.and_eq_true, List.all_eq_true] at h
 exact h.1
theorem isProblem_i (W : Int) (A B : Option Addr) (n c q cb : Nat) (rows : List Int) (hs : List H) (P : List (List C)) (w : World) (hr : Rd w A (vI rows)) (hl : rows.length = n) (hp : RdP w B q hs P) (hq : q ≤ 1048576) (hm : totC P ≤ 1048576) :
  Calls Tryz.prog 75 #[.agg #[.int .i64 W, .slice A n c], .slice B q cb] w (Ret w (.bool (isReg W rows && pcs P))) := by
 have HL := Lib.hid hl
 have HR := Lib.hid (hr.alloc (.cells #[.int .i64 W, .slice A n c] 26))
 have HP := Lib.hid (hp.alloc (.cells #[.int .i64 W, .slice A n c] 26))
 have HM := Lib.hid hm
 clear hl hr hp hm
 cases hv : isReg W rows with
 | false =>
  have HV := Lib.hid hv
  clear hv
  go_enter Tryz.func75, Tryz.ntmps75
  go_wp2_with fail
  refine (IsRegion_i _ _ _ _ rows _ HR.out HL.out).mono ?_
  rw [HV.out]
  rintro e w1 ⟨rfl, hb1⟩
  go_wp2_with fail
  go_ret
  exact ⟨rfl, (by (repeat (first | with_reducible exact Below.refl _ _ | with_reducible assumption | with_reducible apply bel_alloc | with_reducible apply bel_drew | with_reducible apply bel_drewN | ((with_reducible refine bel_set ?_ ?_); rotate_left; (simp <;> omega)) | (with_reducible refine bel_trans ?_ (by with_reducible assumption)))))⟩
 | true =>
  have HV := Lib.hid hv
  clear hv
  go_enter Tryz.func75, Tryz.ntmps75
  go_wp2_with fail
  refine (IsRegion_i _ _ _ _ rows _ HR.out HL.out).mono ?_
  rw [HV.out]
  rintro e w1 ⟨rfl, hb1⟩
  go_wp2_with fail
  refine (ArePieces_i B q cb hs P _ (HP.out.below hb1) hq HM.out).mono ?_
  rintro e w2 ⟨rfl, hb2⟩
  go_wp2_with fail
  go_ret
  exact ⟨by simp, (by (repeat (first | with_reducible exact Below.refl _ _ | with_reducible assumption | with_reducible apply bel_alloc | with_reducible apply bel_drew | with_reducible apply bel_drewN | ((with_reducible refine bel_set ?_ ?_); rotate_left; (simp <;> omega)) | (with_reducible refine bel_trans ?_ (by with_reducible assumption)))))⟩
theorem all_i (W : Int) (A B : Option Addr) (n c q cb : Nat) (rows : List Int) (hs : List H) (P : List (List C)) (w : World) (hr : Rd w A (vI rows)) (hl : rows.length = n) (hv : isReg W rows = true) (hp : RdP w B q hs P) (hpc : pcs P = true) :
  Calls Tryz.prog 77 #[.agg #[.int .i64 W, .slice A n c], .slice B q cb] w (RetS w 3 1 (vI (allV W rows P))) := by
 obtain ⟨hq5, hsh⟩ := pcs_at hpc
 rw [hp.flen] at hq5
 have hN : allV W rows P = ord (catTo W rows P q) := by unfold allV; rw [ord_eq, hp.flen]
 have HN := Lib.hid hN
 have HSH := Lib.hid hsh
 have HL := Lib.hid hl
 have HV := Lib.hid hv
 have HR := Lib.hid (hr.alloc (.cells #[.int .i64 W, .slice A n c] 26))
 have HP := Lib.hid (hp.alloc (.cells #[.int .i64 W, .slice A n c] 26))
 have HB1 := Lib.hid (Blk.new w 26 #[.int .i64 W, .slice A n c])
 have hbw1 : Below w.heap.size w (w.alloc (.cells #[.int .i64 W, .slice A n c] 26)) := bel_alloc (Below.refl _ _) _
 clear hl hr hv hp hN hsh hpc
 go_enter Tryz.func77, Tryz.ntmps77
 go_wp2_with fail
 obtain ⟨w1, hw1⟩ : ∃ w1, w.alloc (.cells #[.int .i64 W, .slice A n c] 26) = w1 := ⟨_, rfl⟩
 rw [hw1] at HR HP HB1 hbw1 ⊢
 clear hw1
 go_loopw [10, 5] (fun e10 e5 wr => ∃ (i k cq : Nat) (D : Option Addr), i ≤ q ∧ e10 = .int .i64 i ∧ e5 = .slice D k cq ∧ wr.ownsRow w1.heap.size 3 1 (.slice D k cq) k (vI (catTo W rows P i)) ∧ Below w1.heap.size w1 wr) (fun e10 _ _ => q - (intOf e10).toNat)
 case atStart => exact ⟨0, 0, 0, none, Nat.zero_le _, rfl, rfl, own_nil _ _ _ _, Below.refl _ _⟩
 case round =>
  obtain ⟨i, k, cq, D, hi, rfl, rfl, hO, hb⟩ := hrel
  have hkl : (catTo W rows P i).length = k := by have := own_len hO; rw [vI_length] at this; omega
  have hcl := (catTo_msk W rows P i).2
  have hB := HB1.out.below hb
  have b0 : wr.cell? ⟨w.heap.size, 0, none⟩ = some (.int .i64 W) := by simpa using hB.cell 0
  have b1 : wr.cell? ⟨w.heap.size, 1, none⟩ = some (.slice A n c) := by simpa using hB.cell 1
  have hgw := hB.lt
  have hk : k ≤ 1440 := by omega
  have HKL := Lib.hid hkl
  clear hB hkl hcl
  by_cases hlt : i < q
  ·have hi0 : (0 : Int) ≤ (i : Int) := by omega
   have hi1 : (i : Int) < (q : Int) := by omega
   obtain ⟨x, f, g, off, _, hfx, hBe, hg, d1, l1, r1⟩ := (HP.out.below hb).at_ hlt
   have hfs := HSH.out f (List.mem_of_getElem? hfx)
   have hst : catTo W rows P (i + 1) = catTo W rows P i ++ plV W rows f := by
    show _ ++ plV W rows (P.getD i []) = _
    rw [List.getD_eq_getElem?_getD, hfx, Option.getD_some]
   obtain ⟨C1, m1, k1⟩ := x
   have HFS := Lib.hid hfs
   have HR1 := Lib.hid r1
   have HL1 := Lib.hid l1
   have HST := Lib.hid hst
   have HO := Lib.hid hO
   have hpl := plV_len W rows f
   dsimp only at d1
   subst hBe
   clear hfx hst hO r1 l1 hfs
   go_wp2_with fail
   refine (placements_i W A C1 n c m1 k1 rows f _ (HR.out.below hb) HL.out HV.out HR1.out HL1.out HFS.out).mono ?_
   rintro e w2 ⟨E, q2, c2, rfl, hO2, hb2⟩
   have hq2 : (plV W rows f).length = q2 := by have := own_len hO2; rw [vI_length] at this; omega
   have HQ2 := Lib.hid hq2
   have HR2 := Lib.hid (Rd.of_own hO2)
   have HOK := Lib.hid (own_keep HO.out hb2)
   have hb02 := bel_trans hb hb2
   have hbz := hb02.size
   have hq3 : q2 ≤ 288 := by omega
   clear hO2 hq2 hpl d1 b0 b1 hgw
   go_wp2_with (at_builtin; go_must (refine app_I _ rfl _ _ rfl w1.heap.size _ _ _ _ rfl HOK.out _ _ _ (plV W rows f) rfl HR2.out HQ2.out (by omega) (by omega) ?_); intro D2 cp2 w8 ho8 hg8 hat8; have HO8 := Lib.hid ho8; have HG8 := Lib.hid hg8; clear ho8 hg8 hat8)
   exact ⟨⟨i + 1, k + q2, cp2, D2, by omega, by go_num, rfl, by rw [HST.out]; exact HO8.out, bel_app hb02 HG8.out (fun g' hg1 => ((own_lt HOK.out) g' hg1).1)⟩, by simp [intOf]; omega⟩
  ·obtain rfl : i = q := by omega
   have HO := Lib.hid hO
   have hi1 : ¬ (i : Int) < (i : Int) := by omega
   clear hO
   go_wp2_with fail
   refine (ordered_i D k cq (catTo W rows P i) _ (Rd.of_own HO.out) HKL.out (by omega)).mono ?_
   rw [← HN.out]
   rintro e w2 ⟨E, q2, c2, rfl, hO2, hb2⟩
   have HO2 := Lib.hid hO2
   have hb02 := bel_trans hbw1 hb
   have hbz := hb02.size
   clear hO2
   go_wp2_with fail
   go_ret
   exact ⟨E, q2, c2, rfl, own_base HO2.out hbz, bel_trans hb02 hb2⟩
end
end Go.Proofs.YtkcgdnnipohehaaGreatDoor
