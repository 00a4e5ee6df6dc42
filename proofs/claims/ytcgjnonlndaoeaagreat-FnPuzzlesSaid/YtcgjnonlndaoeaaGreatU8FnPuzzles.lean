/- Texts of this claim, one behind the other: part 8. -/
import Derived.Test.YtcgjnonlndaoeaaGreatU7FnPuzzles
import Derived.Outline
import Derived.WalkLawsBesides
import Derived.WalkSpells
import Derived.BigQuiet
import Derived.Deep.QuietTactic
import Derived.Deep.RegionHeld3
import Derived.Deep.RegionWith
import Derived.Deep.DeepCutAuto
import Derived.Deep.CutBlock
import Derived.Deep.DrawnRows
/- The reference's draws of a puzzle and a list. -/
namespace Go.Proofs.YtcgjnonlndaoeaaGreat
open Go.RowKit
set_option linter.unusedVariables false
attribute [local go_sem ↓] Go.wp_at_zero Go.wp_at_succ

/-- A puzzle and a list were drawn. -/
def RetTr (w : World) (e : Ending) (w' : World) : Prop :=
  ∃ (m k : Nat) (D : Option Addr) (cD : Nat) (rows : List Int) (B : Option Addr) (q cB : Nat) (hs : List H) (P : List (List C)) (E : Option Addr) (kE cE : Nat) (ls : List Int), e = .returned (.tuple #[.agg #[.int .i64 (m : Int), .slice D k cD], .slice B q cB, .slice E kE cE]) ∧ Rd w' D (vI rows) ∧ rows.length = k ∧ k ≤ 6 ∧ PcF (w.heap.size + 1) w' B q cB hs P ∧ q ≤ 5 ∧ Rd w' E (vI ls) ∧ ls.length = kE ∧ kE ≤ 7 ∧ Below w.heap.size w w'
set_option maxRecDepth 100000 in
set_option maxHeartbeats 3200000 in
theorem DrawIsSolution_s (A : Option Addr) (n c : Nat) (bs : List UInt8) (w : World) (hr : Rd w A (vB bs)) (hl : bs.length = n) (hn : n ≤ 1048576) :
    Calls Tryz.prog 20 #[.slice A n c] w (RetTr w) := by
  have hBZ := Blk.new w 26 #[.int .i64 0, .slice none 0 0]
  have hb0 := bel_alloc (Below.refl w.heap.size w) (.cells #[.int .i64 0, .slice none 0 0] 26)
  have hr0 := hr.below hb0
  obtain ⟨w1, hw1⟩ : ∃ w1, w.alloc (.cells #[.int .i64 0, .slice none 0 0] 26) = w1 := ⟨_, rfl⟩
  have hsz1 : w1.heap.size = w.heap.size + 1 := by rw [← hw1]; simp
  rw [hw1] at hBZ hb0 hr0
  have HW1 := Lib.hid hw1
  have HSZ1 := Lib.hid hsz1
  have HBZ := Lib.hid hBZ
  have HB0 := Lib.hid hb0
  have HR0 := Lib.hid hr0
  have HL := Lib.hid hl
  clear hBZ hb0 hw1 hsz1 hr hr0 hl
  go_enter Tryz.func20, Tryz.ntmps20
  go_wp2_with fail
  rw [HW1.out]
  clear HW1
  go_wp2_with fail
  refine (l22Three_s A n c bs w1 HR0.out HL.out hn).mono ?_
  rintro e w3 ⟨m, k, D, cD, rows, B, q, cB, hs, P, E, kE, cE, ls, N, rfl, hr3, hl3, hk6, hD, hP, hq, hO, hkE, hS, hN, hb3⟩
  have H2 := Lib.hid hl3
  have H3 := Lib.hid hD
  have HSN := Lib.hid hS
  have hs1 := HSZ1.out
  have hs3 := hb3.size
  obtain ⟨W, hW⟩ : ∃ W : Int, (m : Int) = W := ⟨_, rfl⟩
  have HW := Lib.hid hW
  rw [hW]
  clear hW
  have ba := bel_alloc (Below.refl w3.heap.size w3) (.cells #[.int .i64 W, .slice D k cD] 26)
  have HLS := Lib.hid (by have h1 := own_len hO; rw [vI_length] at h1; omega : ls.length = kE)
  have hEl := own_lt hO
  have HN7 := Lib.hid (Blk.new w3 26 #[.int .i64 W, .slice D k cD])
  have HD := Lib.hid (hr3.below ba)
  have HP := Lib.hid (hP.below ba)
  have HOR := Lib.hid (own_keep hO ba)
  have HB := Lib.hid (bel_trans (bel_trans HB0.out hb3) ba)
  have HZ7 := Lib.hid ((HBZ.out.below hb3).below ba)
  have HEL := Lib.hid hEl
  obtain ⟨w4, hw4⟩ : ∃ w4, w3.alloc (.cells #[.int .i64 W, .slice D k cD] 26) = w4 := ⟨_, rfl⟩
  have hs4 : w4.heap.size = w3.heap.size + 1 := by rw [← hw4]; simp
  rw [hw4] at HN7 HD HP HOR HB HZ7
  have HW4 := Lib.hid hw4
  have HS4 := Lib.hid hs4
  clear ba hw4 hs4 hr3 hl3 hD hP hO hS hb3 hEl
  go_upto_region 2 with fail
  rw [HW4.out]
  clear HW4
  have ne : ∀ b, ob E = some b → b ≠ w.heap.size := fun b e => by have := (own_lt HOR.out b e).1; omega
  have NE := Lib.hid ne
  have gz : w4.grownBy ((w4.setCell ⟨w.heap.size, 0, none⟩ (.int .i64 W)).setCell ⟨w.heap.size, 1, none⟩ (.slice D k cD)) (some w.heap.size) := grown_set (p := ⟨w.heap.size, 1, none⟩) (grown_set (p := ⟨w.heap.size, 0, none⟩) (World.grownBy.refl _ _) rfl _) rfl _
  have GZ := Lib.hid gz
  have z0 : w4.cell? ⟨w.heap.size, 0, none⟩ = some (.int .i64 0) := by simpa using HZ7.out.cell 0
  have z1 : w4.cell? ⟨w.heap.size, 1, none⟩ = some (.slice none 0 0) := by simpa using HZ7.out.cell 1
  have f0 := HZ7.out.frozen 0
  have f1 := HZ7.out.frozen 1
  have zl := HZ7.out.lt
  have c0 : w4.cell? ⟨w3.heap.size, 0, none⟩ = some (.int .i64 W) := by simpa using HN7.out.cell 0
  have c1 : w4.cell? ⟨w3.heap.size, 1, none⟩ = some (.slice D k cD) := by simpa using HN7.out.cell 1
  have cl := HN7.out.lt
  have hZf := (HZ7.out.set_ 0 (.int .i64 W)).set_ 1 (.slice D k cD)
  have e0 : ((w4.setCell ⟨w.heap.size, 0, none⟩ (.int .i64 W)).setCell ⟨w.heap.size, 1, none⟩ (.slice D k cD)).cell? ⟨w.heap.size, 0, none⟩ = some (.int .i64 W) := by simpa using hZf.cell 0
  have e1 : ((w4.setCell ⟨w.heap.size, 0, none⟩ (.int .i64 W)).setCell ⟨w.heap.size, 1, none⟩ (.slice D k cD)).cell? ⟨w.heap.size, 1, none⟩ = some (.slice D k cD) := by simpa using hZf.cell 1
  have E0 := Lib.hid e0
  have E1 := Lib.hid e1
  clear hZf e0 e1 gz ne
  go_wp2_with fail
  have e0 := E0.out
  have e1 := E1.out
  exact bodyPost_ret (v := .tuple #[.agg #[.int .i64 W, .slice D k cD], .slice B q cB, .slice E kE cE]) (by simp [results, Tryz.results20, go_sem, e0, e1]) rfl
    ⟨m, k, D, cD, rows, B, q, cB, hs, P, E, kE, cE, ls, by rw [HW.out], HD.out.grown GZ.out (fun b e r => by injection r with r; have := H3.out b e; omega), H2.out, hk6, (HP.out.draw GZ.out (by omega)).base (by omega), hq, Rd.of_own (own_set (own_set HOR.out NE.out _) NE.out _), HLS.out, hkE, bel_grown (HB.out) GZ.out (fun b e => by injection e with e; omega)⟩
set_option maxRecDepth 100000 in
set_option maxHeartbeats 3200000 in
theorem DrawFewestHints_s (A : Option Addr) (n c : Nat) (bs : List UInt8) (w : World) (hr : Rd w A (vB bs)) (hl : bs.length = n) (hn : n ≤ 1048576) :
    Calls Tryz.prog 15 #[.slice A n c] w (RetTr w) := by
  have hBZ := Blk.new w 26 #[.int .i64 0, .slice none 0 0]
  have hb0 := bel_alloc (Below.refl w.heap.size w) (.cells #[.int .i64 0, .slice none 0 0] 26)
  have hr0 := hr.below hb0
  obtain ⟨w1, hw1⟩ : ∃ w1, w.alloc (.cells #[.int .i64 0, .slice none 0 0] 26) = w1 := ⟨_, rfl⟩
  have hsz1 : w1.heap.size = w.heap.size + 1 := by rw [← hw1]; simp
  rw [hw1] at hBZ hb0 hr0
  have HW1 := Lib.hid hw1
  have HSZ1 := Lib.hid hsz1
  have HBZ := Lib.hid hBZ
  have HB0 := Lib.hid hb0
  have HR0 := Lib.hid hr0
  have HL := Lib.hid hl
  clear hBZ hb0 hw1 hsz1 hr hr0 hl
  go_enter Tryz.func15, Tryz.ntmps15
  go_wp2_with fail
  rw [HW1.out]
  clear HW1
  go_wp2_with fail
  refine (l22Three_s A n c bs w1 HR0.out HL.out hn).mono ?_
  rintro e w3 ⟨m, k, D, cD, rows, B, q, cB, hs, P, E, kE, cE, ls, N, rfl, hr3, hl3, hk6, hD, hP, hq, hO, hkE, hS, hN, hb3⟩
  have H2 := Lib.hid hl3
  have H3 := Lib.hid hD
  have HSN := Lib.hid hS
  have hs1 := HSZ1.out
  have hs3 := hb3.size
  obtain ⟨W, hW⟩ : ∃ W : Int, (m : Int) = W := ⟨_, rfl⟩
  have HW := Lib.hid hW
  rw [hW]
  clear hW
  have ba := bel_alloc (Below.refl w3.heap.size w3) (.cells #[.int .i64 W, .slice D k cD] 26)
  have HLS := Lib.hid (by have h1 := own_len hO; rw [vI_length] at h1; omega : ls.length = kE)
  have hEl := own_lt hO
  have HN7 := Lib.hid (Blk.new w3 26 #[.int .i64 W, .slice D k cD])
  have HD := Lib.hid (hr3.below ba)
  have HP := Lib.hid (hP.below ba)
  have HOR := Lib.hid (own_keep hO ba)
  have HB := Lib.hid (bel_trans (bel_trans HB0.out hb3) ba)
  have HZ7 := Lib.hid ((HBZ.out.below hb3).below ba)
  have HEL := Lib.hid hEl
  obtain ⟨w4, hw4⟩ : ∃ w4, w3.alloc (.cells #[.int .i64 W, .slice D k cD] 26) = w4 := ⟨_, rfl⟩
  have hs4 : w4.heap.size = w3.heap.size + 1 := by rw [← hw4]; simp
  rw [hw4] at HN7 HD HP HOR HB HZ7
  have HW4 := Lib.hid hw4
  have HS4 := Lib.hid hs4
  clear ba hw4 hs4 hr3 hl3 hD hP hO hS hb3 hEl
  go_upto_region 2 with fail
  rw [HW4.out]
  clear HW4
  have ne : ∀ b, ob E = some b → b ≠ w.heap.size := fun b e => by have := (own_lt HOR.out b e).1; omega
  have NE := Lib.hid ne
  have gz : w4.grownBy ((w4.setCell ⟨w.heap.size, 0, none⟩ (.int .i64 W)).setCell ⟨w.heap.size, 1, none⟩ (.slice D k cD)) (some w.heap.size) := grown_set (p := ⟨w.heap.size, 1, none⟩) (grown_set (p := ⟨w.heap.size, 0, none⟩) (World.grownBy.refl _ _) rfl _) rfl _
  have GZ := Lib.hid gz
  have z0 : w4.cell? ⟨w.heap.size, 0, none⟩ = some (.int .i64 0) := by simpa using HZ7.out.cell 0
  have z1 : w4.cell? ⟨w.heap.size, 1, none⟩ = some (.slice none 0 0) := by simpa using HZ7.out.cell 1
  have f0 := HZ7.out.frozen 0
  have f1 := HZ7.out.frozen 1
  have zl := HZ7.out.lt
  have c0 : w4.cell? ⟨w3.heap.size, 0, none⟩ = some (.int .i64 W) := by simpa using HN7.out.cell 0
  have c1 : w4.cell? ⟨w3.heap.size, 1, none⟩ = some (.slice D k cD) := by simpa using HN7.out.cell 1
  have cl := HN7.out.lt
  have hZf := (HZ7.out.set_ 0 (.int .i64 W)).set_ 1 (.slice D k cD)
  have e0 : ((w4.setCell ⟨w.heap.size, 0, none⟩ (.int .i64 W)).setCell ⟨w.heap.size, 1, none⟩ (.slice D k cD)).cell? ⟨w.heap.size, 0, none⟩ = some (.int .i64 W) := by simpa using hZf.cell 0
  have e1 : ((w4.setCell ⟨w.heap.size, 0, none⟩ (.int .i64 W)).setCell ⟨w.heap.size, 1, none⟩ (.slice D k cD)).cell? ⟨w.heap.size, 1, none⟩ = some (.slice D k cD) := by simpa using hZf.cell 1
  have E0 := Lib.hid e0
  have E1 := Lib.hid e1
  clear hZf e0 e1 gz ne
  go_wp2_with fail
  have e0 := E0.out
  have e1 := E1.out
  exact bodyPost_ret (v := .tuple #[.agg #[.int .i64 W, .slice D k cD], .slice B q cB, .slice E kE cE]) (by simp [results, Tryz.results15, go_sem, e0, e1]) rfl
    ⟨m, k, D, cD, rows, B, q, cB, hs, P, E, kE, cE, ls, by rw [HW.out], HD.out.grown GZ.out (fun b e r => by injection r with r; have := H3.out b e; omega), H2.out, hk6, (HP.out.draw GZ.out (by omega)).base (by omega), hq, Rd.of_own (own_set (own_set HOR.out NE.out _) NE.out _), HLS.out, hkE, bel_grown (HB.out) GZ.out (fun b e => by injection e with e; omega)⟩
set_option maxRecDepth 100000 in
set_option maxHeartbeats 3200000 in
theorem DrawCountWithHint_s (A : Option Addr) (n c : Nat) (bs : List UInt8) (w : World) (hr : Rd w A (vB bs)) (hl : bs.length = n) (hn : n ≤ 1048576) :
    Calls Tryz.prog 12 #[.slice A n c] w (RetTr w) := by
  have hBZ := Blk.new w 26 #[.int .i64 0, .slice none 0 0]
  have hb0 := bel_alloc (Below.refl w.heap.size w) (.cells #[.int .i64 0, .slice none 0 0] 26)
  have hr0 := hr.below hb0
  obtain ⟨w1, hw1⟩ : ∃ w1, w.alloc (.cells #[.int .i64 0, .slice none 0 0] 26) = w1 := ⟨_, rfl⟩
  have hsz1 : w1.heap.size = w.heap.size + 1 := by rw [← hw1]; simp
  rw [hw1] at hBZ hb0 hr0
  have HW1 := Lib.hid hw1
  have HSZ1 := Lib.hid hsz1
  have HBZ := Lib.hid hBZ
  have HB0 := Lib.hid hb0
  have HR0 := Lib.hid hr0
  have HL := Lib.hid hl
  clear hBZ hb0 hw1 hsz1 hr hr0 hl
  go_enter Tryz.func12, Tryz.ntmps12
  go_wp2_with fail
  rw [HW1.out]
  clear HW1
  go_wp2_with fail
  refine (l22Three_s A n c bs w1 HR0.out HL.out hn).mono ?_
  rintro e w3 ⟨m, k, D, cD, rows, B, q, cB, hs, P, E, kE, cE, ls, N, rfl, hr3, hl3, hk6, hD, hP, hq, hO, hkE, hS, hN, hb3⟩
  have H2 := Lib.hid hl3
  have H3 := Lib.hid hD
  have HSN := Lib.hid hS
  have hs1 := HSZ1.out
  have hs3 := hb3.size
  obtain ⟨W, hW⟩ : ∃ W : Int, (m : Int) = W := ⟨_, rfl⟩
  have HW := Lib.hid hW
  rw [hW]
  clear hW
  have ba := bel_alloc (Below.refl w3.heap.size w3) (.cells #[.int .i64 W, .slice D k cD] 26)
  have HLS := Lib.hid (by have h1 := own_len hO; rw [vI_length] at h1; omega : ls.length = kE)
  have hEl := own_lt hO
  have HN7 := Lib.hid (Blk.new w3 26 #[.int .i64 W, .slice D k cD])
  have HD := Lib.hid (hr3.below ba)
  have HP := Lib.hid (hP.below ba)
  have HOR := Lib.hid (own_keep hO ba)
  have HB := Lib.hid (bel_trans (bel_trans HB0.out hb3) ba)
  have HZ7 := Lib.hid ((HBZ.out.below hb3).below ba)
  have HEL := Lib.hid hEl
  obtain ⟨w4, hw4⟩ : ∃ w4, w3.alloc (.cells #[.int .i64 W, .slice D k cD] 26) = w4 := ⟨_, rfl⟩
  have hs4 : w4.heap.size = w3.heap.size + 1 := by rw [← hw4]; simp
  rw [hw4] at HN7 HD HP HOR HB HZ7
  have HW4 := Lib.hid hw4
  have HS4 := Lib.hid hs4
  clear ba hw4 hs4 hr3 hl3 hD hP hO hS hb3 hEl
  go_upto_region 2 with fail
  rw [HW4.out]
  clear HW4
  have HKN : Hid (n = n) := rfl
  by_cases h0 : 0 < kE ∧ n % 2 = 0
  · obtain ⟨h0, h2⟩ := h0
    have h0I : (kE : Int) > 0 := by omega
    have n2x : (n : Int).tmod 2 = ((n % 2 : Nat) : Int) := (Int.ofNat_tmod n 2).symm
    have n2 : (n : Int).tmod 2 = 0 := by rw [n2x, h2]; rfl
    clear n2x
    have n2b : (n : Int) % 2 = 0 := by omega
    obtain ⟨i, hi⟩ : ∃ i, n % kE = i := ⟨_, rfl⟩
    have hil : i < kE := by rw [← hi]; exact Nat.mod_lt _ h0
    have hi1 : (n : Int) % (kE : Int) = (i : Int) := by rw [← hi]; simp
    have hi2 : (n : Int).tmod (kE : Int) = (i : Int) := by rw [← hi]; simp [Int.tmod]
    have hkz : ((kE : Int) == 0) = false := by simp; omega
    have hkz2 : ¬ (kE : Int) = 0 := by omega
    have ei : IntKind.i64.wrap (i : Int) = (i : Int) := Go.IntWalk.i64_in _ (by omega)
    have hi3 : (0 : Int) ≤ (i : Int) := by omega
    have hi4 : (i : Int) < (kE : Int) := by omega
    obtain ⟨ge, hE, hgN, hge⟩ := own_someD HOR.out h0
    subst hE
    obtain ⟨g5, o5, hA5, _, d0⟩ := RdI.at_ (Rd.of_own HOR.out) (show i < ls.length by rw [HLS.out]; exact hil)
    injection hA5 with hA5
    injection hA5 with e1 e2
    subst e1 e2
    rw [Nat.zero_add] at d0
    have d1 := own_frz HOR.out i
    have hge3 : ge < w3.heap.size := (HEL.out ge rfl).2
    have hn1 : ge ≠ w.heap.size := by omega
    have hn2 : ge ≠ w3.heap.size := by omega
    clear hi h2
    go_upto_region 4 with fail
    have gE : w4.grownBy (w4.setCell ⟨ge, i, none⟩ (.int .i64 (-1))) (some ge) := grown_set (p := ⟨ge, i, none⟩) (World.grownBy.refl _ _) rfl _
    have HOR2 := Lib.hid (own_putI HOR.out hil (-1))
    have HD2 := Lib.hid (rdI_far HD.out HSN.out.d gE hgN)
    have HP2 := Lib.hid (HP.out.far HSN.out gE hgN)
    have HB2 := Lib.hid (bel_grown HB.out gE (fun b e => by injection e with e; omega))
    have HN72 := Lib.hid (HN7.out.grown gE (fun e => by injection e with e; omega))
    have HZ72 := Lib.hid (HZ7.out.grown gE (fun e => by injection e with e; omega))
    have hs5 := gE.size
    clear HOR HD HP HB HN7 HZ7 gE d0 d1
    obtain ⟨w5, hw5⟩ : ∃ w5, w4.setCell ⟨ge, i, none⟩ (.int .i64 (-1)) = w5 := ⟨_, rfl⟩
    rw [hw5] at HOR2 HD2 HP2 HB2 HN72 HZ72 hs5
    rw [hw5]
    clear hw5
    have HOR := HOR2
    have HN7 := HN72
    have HZ7 := HZ72
    obtain ⟨E, hE⟩ : ∃ E, (some (⟨ge, 0, none⟩ : Addr)) = E := ⟨_, rfl⟩
    rw [hE] at HOR HOR2
    rw [hE]
    have HLS2 := Lib.hid (by rw [List.length_set]; exact HLS.out : (ls.set i (-1)).length = kE)
    clear hE
    have ne : ∀ b, ob E = some b → b ≠ w.heap.size := fun b e => by have := (own_lt HOR.out b e).1; omega
    have NE := Lib.hid ne
    have gz : w5.grownBy ((w5.setCell ⟨w.heap.size, 0, none⟩ (.int .i64 W)).setCell ⟨w.heap.size, 1, none⟩ (.slice D k cD)) (some w.heap.size) := grown_set (p := ⟨w.heap.size, 1, none⟩) (grown_set (p := ⟨w.heap.size, 0, none⟩) (World.grownBy.refl _ _) rfl _) rfl _
    have GZ := Lib.hid gz
    have z0 : w5.cell? ⟨w.heap.size, 0, none⟩ = some (.int .i64 0) := by simpa using HZ7.out.cell 0
    have z1 : w5.cell? ⟨w.heap.size, 1, none⟩ = some (.slice none 0 0) := by simpa using HZ7.out.cell 1
    have f0 := HZ7.out.frozen 0
    have f1 := HZ7.out.frozen 1
    have zl := HZ7.out.lt
    have c0 : w5.cell? ⟨w3.heap.size, 0, none⟩ = some (.int .i64 W) := by simpa using HN7.out.cell 0
    have c1 : w5.cell? ⟨w3.heap.size, 1, none⟩ = some (.slice D k cD) := by simpa using HN7.out.cell 1
    have cl := HN7.out.lt
    have hZf := (HZ7.out.set_ 0 (.int .i64 W)).set_ 1 (.slice D k cD)
    have e0 : ((w5.setCell ⟨w.heap.size, 0, none⟩ (.int .i64 W)).setCell ⟨w.heap.size, 1, none⟩ (.slice D k cD)).cell? ⟨w.heap.size, 0, none⟩ = some (.int .i64 W) := by simpa using hZf.cell 0
    have e1 : ((w5.setCell ⟨w.heap.size, 0, none⟩ (.int .i64 W)).setCell ⟨w.heap.size, 1, none⟩ (.slice D k cD)).cell? ⟨w.heap.size, 1, none⟩ = some (.slice D k cD) := by simpa using hZf.cell 1
    have E0 := Lib.hid e0
    have E1 := Lib.hid e1
    clear hZf e0 e1 gz ne
    go_wp2_with fail
    have e0 := E0.out
    have e1 := E1.out
    exact bodyPost_ret (v := .tuple #[.agg #[.int .i64 W, .slice D k cD], .slice B q cB, .slice E kE cE]) (by simp [results, Tryz.results12, go_sem, e0, e1]) rfl
      ⟨m, k, D, cD, rows, B, q, cB, hs, P, E, kE, cE, _, by rw [HW.out], HD2.out.grown GZ.out (fun b e r => by injection r with r; have := H3.out b e; omega), H2.out, hk6, (HP2.out.draw GZ.out (by omega)).base (by omega), hq, Rd.of_own (own_set (own_set HOR.out NE.out _) NE.out _), HLS2.out, hkE, bel_grown (HB2.out) GZ.out (fun b e => by injection e with e; omega)⟩
  · have hkn : ((kE : Int) > 0) = decide (0 < kE) := by simp
    clear hkn
    by_cases h1 : 0 < kE
    · have h0I : (kE : Int) > 0 := by omega
      have n2x : (n : Int).tmod 2 = ((n % 2 : Nat) : Int) := (Int.ofNat_tmod n 2).symm
      have n2 : ((n : Int).tmod 2 == 0) = false := by rw [n2x]; simp only [beq_eq_false_iff_ne]; omega
      clear n2x
      have n2b : ((n : Int) % 2 == 0) = false := by simp only [beq_eq_false_iff_ne]; omega
      clear h0
      go_upto_region 4 with fail
      have ne : ∀ b, ob E = some b → b ≠ w.heap.size := fun b e => by have := (own_lt HOR.out b e).1; omega
      have NE := Lib.hid ne
      have gz : w4.grownBy ((w4.setCell ⟨w.heap.size, 0, none⟩ (.int .i64 W)).setCell ⟨w.heap.size, 1, none⟩ (.slice D k cD)) (some w.heap.size) := grown_set (p := ⟨w.heap.size, 1, none⟩) (grown_set (p := ⟨w.heap.size, 0, none⟩) (World.grownBy.refl _ _) rfl _) rfl _
      have GZ := Lib.hid gz
      have z0 : w4.cell? ⟨w.heap.size, 0, none⟩ = some (.int .i64 0) := by simpa using HZ7.out.cell 0
      have z1 : w4.cell? ⟨w.heap.size, 1, none⟩ = some (.slice none 0 0) := by simpa using HZ7.out.cell 1
      have f0 := HZ7.out.frozen 0
      have f1 := HZ7.out.frozen 1
      have zl := HZ7.out.lt
      have c0 : w4.cell? ⟨w3.heap.size, 0, none⟩ = some (.int .i64 W) := by simpa using HN7.out.cell 0
      have c1 : w4.cell? ⟨w3.heap.size, 1, none⟩ = some (.slice D k cD) := by simpa using HN7.out.cell 1
      have cl := HN7.out.lt
      have hZf := (HZ7.out.set_ 0 (.int .i64 W)).set_ 1 (.slice D k cD)
      have e0 : ((w4.setCell ⟨w.heap.size, 0, none⟩ (.int .i64 W)).setCell ⟨w.heap.size, 1, none⟩ (.slice D k cD)).cell? ⟨w.heap.size, 0, none⟩ = some (.int .i64 W) := by simpa using hZf.cell 0
      have e1 : ((w4.setCell ⟨w.heap.size, 0, none⟩ (.int .i64 W)).setCell ⟨w.heap.size, 1, none⟩ (.slice D k cD)).cell? ⟨w.heap.size, 1, none⟩ = some (.slice D k cD) := by simpa using hZf.cell 1
      have E0 := Lib.hid e0
      have E1 := Lib.hid e1
      clear hZf e0 e1 gz ne
      go_wp2_with fail
      have e0 := E0.out
      have e1 := E1.out
      exact bodyPost_ret (v := .tuple #[.agg #[.int .i64 W, .slice D k cD], .slice B q cB, .slice E kE cE]) (by simp [results, Tryz.results12, go_sem, e0, e1]) rfl
        ⟨m, k, D, cD, rows, B, q, cB, hs, P, E, kE, cE, ls, by rw [HW.out], HD.out.grown GZ.out (fun b e r => by injection r with r; have := H3.out b e; omega), H2.out, hk6, (HP.out.draw GZ.out (by omega)).base (by omega), hq, Rd.of_own (own_set (own_set HOR.out NE.out _) NE.out _), HLS.out, hkE, bel_grown (HB.out) GZ.out (fun b e => by injection e with e; omega)⟩
    · have h0I : ¬ (kE : Int) > 0 := by omega
      clear h0
      go_upto_region 4 with fail
      have ne : ∀ b, ob E = some b → b ≠ w.heap.size := fun b e => by have := (own_lt HOR.out b e).1; omega
      have NE := Lib.hid ne
      have gz : w4.grownBy ((w4.setCell ⟨w.heap.size, 0, none⟩ (.int .i64 W)).setCell ⟨w.heap.size, 1, none⟩ (.slice D k cD)) (some w.heap.size) := grown_set (p := ⟨w.heap.size, 1, none⟩) (grown_set (p := ⟨w.heap.size, 0, none⟩) (World.grownBy.refl _ _) rfl _) rfl _
      have GZ := Lib.hid gz
      have z0 : w4.cell? ⟨w.heap.size, 0, none⟩ = some (.int .i64 0) := by simpa using HZ7.out.cell 0
      have z1 : w4.cell? ⟨w.heap.size, 1, none⟩ = some (.slice none 0 0) := by simpa using HZ7.out.cell 1
      have f0 := HZ7.out.frozen 0
      have f1 := HZ7.out.frozen 1
      have zl := HZ7.out.lt
      have c0 : w4.cell? ⟨w3.heap.size, 0, none⟩ = some (.int .i64 W) := by simpa using HN7.out.cell 0
      have c1 : w4.cell? ⟨w3.heap.size, 1, none⟩ = some (.slice D k cD) := by simpa using HN7.out.cell 1
      have cl := HN7.out.lt
      have hZf := (HZ7.out.set_ 0 (.int .i64 W)).set_ 1 (.slice D k cD)
      have e0 : ((w4.setCell ⟨w.heap.size, 0, none⟩ (.int .i64 W)).setCell ⟨w.heap.size, 1, none⟩ (.slice D k cD)).cell? ⟨w.heap.size, 0, none⟩ = some (.int .i64 W) := by simpa using hZf.cell 0
      have e1 : ((w4.setCell ⟨w.heap.size, 0, none⟩ (.int .i64 W)).setCell ⟨w.heap.size, 1, none⟩ (.slice D k cD)).cell? ⟨w.heap.size, 1, none⟩ = some (.slice D k cD) := by simpa using hZf.cell 1
      have E0 := Lib.hid e0
      have E1 := Lib.hid e1
      clear hZf e0 e1 gz ne
      go_wp2_with fail
      have e0 := E0.out
      have e1 := E1.out
      exact bodyPost_ret (v := .tuple #[.agg #[.int .i64 W, .slice D k cD], .slice B q cB, .slice E kE cE]) (by simp [results, Tryz.results12, go_sem, e0, e1]) rfl
        ⟨m, k, D, cD, rows, B, q, cB, hs, P, E, kE, cE, ls, by rw [HW.out], HD.out.grown GZ.out (fun b e r => by injection r with r; have := H3.out b e; omega), H2.out, hk6, (HP.out.draw GZ.out (by omega)).base (by omega), hq, Rd.of_own (own_set (own_set HOR.out NE.out _) NE.out _), HLS.out, hkE, bel_grown (HB.out) GZ.out (fun b e => by injection e with e; omega)⟩
end Go.Proofs.YtcgjnonlndaoeaaGreat

/- What the laws on drawn values share: bytes opened, sizes, lists compared. -/
namespace Go.Proofs.YtcgjnonlndaoeaaGreat
open Go.ChangeShapes Go.WideShapes Go.ChangeAt Go.RowKit
set_option linter.unusedVariables false
attribute [local go_sem ↓] Go.wp_at_zero Go.wp_at_succ
section
variable {H : Type} {enc : TypeId × Value → H}
theorem cellsB : Tryz.prog.cellsOf 5 = 1 := by kernel_rfl
set_option maxRecDepth 100000 in
theorem openB {W : World} {r : Reach} {b0 : Nat} {t : TypeId} (ht : Tryz.prog.underlying t = some (.slice 5)) {base : Nat} {spare : Nat → Bool} {held : Bool} {v : Value} {d : DataW H} {p : List MemPlace} (hv : Value.okWide Tryz.prog W r b0 t v) (h : DataW.Trod enc Tryz.prog W base spare held t v d p) :
    ∃ A n c xs, v = .slice A n c ∧ Rd W A (vB xs) ∧ xs.length = n ∧ n ≤ maxLen := by
  obtain ⟨a0, len, cap, rfl⟩ := okWide_slice ht hv
  obtain ⟨fuel, hf⟩ := h
  rcases open_ints ht Tryz.underlying5 cellsB hf with ⟨hcs, hx⟩ | ⟨a, len', cap', zs, hcs, _, hl, hm, hz, hx, hcell, hwz⟩
  · simp [Value.cells] at hcs
    obtain ⟨rfl, rfl, rfl⟩ := hcs
    exact ⟨none, 0, 0, [], rfl, .inl rfl, rfl, Nat.zero_le _⟩
  · simp [Value.cells] at hcs
    obtain ⟨rfl, rfl, rfl⟩ := hcs
    have hzl : len ≤ zs.length := by rw [hz]; split <;> omega
    have hrng : ∀ z ∈ zs, 0 ≤ z ∧ z < 256 := fun z hz2 => by
      have := hwz z hz2
      simp [Lit.wf, IntKind.min, IntKind.max, IntKind.bits, IntKind.signed] at this
      omega
    refine ⟨_, _, _, (zs.take len).map (fun z => UInt8.ofNat z.toNat), rfl, ?_, by rw [List.length_map, List.length_take]; omega, by omega⟩
    by_cases h0 : 0 < zs.length
    · obtain ⟨ab, ao, spot⟩ := a
      have hspot : spot = none := by simpa [Addr.add] using World.cell?_spot (hcell 0 h0)
      subst hspot
      refine .inr ⟨ab, ao, rfl, fun j u hu => ?_⟩
      simp only [vB, List.getElem?_map, Option.map_eq_some_iff] at hu
      obtain ⟨x, ⟨z, hz1, rfl⟩, rfl⟩ := hu
      have hjl : j < len := by
        rcases Nat.lt_or_ge j len with h | h
        · exact h
        · rw [List.getElem?_eq_none (by rw [List.length_take]; omega)] at hz1; cases hz1
      rw [List.getElem?_take_of_lt hjl] at hz1
      have h3 := hcell j (by omega)
      have h4 := hrng z (List.mem_of_getElem? hz1)
      rw [show (⟨ab, ao + j, none⟩ : Addr) = (⟨ab, ao, none⟩ : Addr).add j from by simp [Addr.add], h3, List.getD_eq_getElem?_getD, hz1]
      have e : ((UInt8.ofNat z.toNat).toNat : Int) = z := by
        rw [UInt8.toNat_ofNat_of_lt' (by show z.toNat < 256; omega)]
        omega
      rw [e]
      rfl
    · left
      rw [List.eq_nil_of_length_eq_zero (by omega : zs.length = 0)]
      simp [vB]
end
theorem big_l (A : Option Addr) (n c : Nat) (w : World) : Calls Tryz.prog 4 #[.slice A n c] w (Ret w (.bool (decide ((n : Int) > 1048576)))) := by
  go_enter Tryz.func4, Tryz.ntmps4
  go_wp2_with fail
  go_ret
  exact ⟨rfl, Below.refl _ _⟩
set_option maxHeartbeats 800000 in
theorem sameInts_t (A A2 : Option Addr) (n c n2 c2 : Nat) (xs : List Int) (w : World) (h : Rd w A (vI xs)) (h2 : Rd w A2 (vI xs)) (hl : xs.length = n) (hl2 : xs.length = n2) (hn : n ≤ 1099511627776) :
    Calls Tryz.prog 18 #[.slice A n c, .slice A2 n2 c2] w (Ret w (.bool true)) := by
  obtain rfl : n = n2 := hl.symm.trans hl2
  have HL := Lib.hid hl
  have H1 := Lib.hid h
  have H2 := Lib.hid h2
  have hne : ((n : Int) != (n : Int)) = false := by simp
  clear hl hl2 h h2
  go_enter Tryz.func18, Tryz.ntmps18
  go_wp2_with fail
  go_loopw [5] (fun e5 wr => ∃ j : Nat, j ≤ n ∧ e5 = .int .i64 j ∧ Below w.heap.size w wr) (fun e5 _ => n - (intOf e5).toNat)
  case atStart => exact ⟨0, Nat.zero_le _, rfl, Below.refl _ _⟩
  case round =>
    obtain ⟨j, hj, rfl, hb⟩ := hrel
    by_cases hlt : j < n
    · have hj0 : (0 : Int) ≤ (j : Int) := by omega
      have hj1 : (j : Int) < (n : Int) := by omega
      have hjl : j < xs.length := by rw [HL.out]; exact hlt
      obtain ⟨g, off, hA, hg, d1⟩ := RdI.at_ (H1.out.below hb) hjl
      obtain ⟨g2, off2, hA2, hg2, d2⟩ := RdI.at_ (H2.out.below hb) hjl
      obtain ⟨v, hv⟩ : ∃ v, xs[j] = v := ⟨_, rfl⟩
      rw [hv] at d1 d2
      have hvv : (v != v) = false := by simp
      subst hA hA2
      clear hv
      go_wp2_with fail
      (refine wp_region_below (by kernel_rfl) (by kernel_rfl) ?_; (repeat (first | go_big_quiet_skip | (refine quietV (v := ?_) (by rfl) rfl (fun w' hbw => ?_) ?_; rotate_left; ((try dsimp only at hbw); have hbc := (bcell hbw).1; have hbf := (bcell hbw).2; go_simp; first | done | with_reducible rfl | fail); simp only [List.setIfInBounds_toArray, List.set_cons_zero, List.set_cons_succ]))); refine wpQuiet_nil ?_; intro wq hbq)
      go_wp2_with fail
      exact ⟨⟨j + 1, by omega, by go_num, bel_trans hb hbq⟩, by simp [intOf]; omega⟩
    · have hj1 : ¬ (j : Int) < (n : Int) := by omega
      go_wp2_with fail
      go_ret
      exact ⟨rfl, hb⟩
end Go.Proofs.YtcgjnonlndaoeaaGreat

/- Lists of lists compared by the laws. -/
namespace Go.Proofs.YtcgjnonlndaoeaaGreat
open Go.RowKit
set_option linter.unusedVariables false
attribute [local go_sem ↓] Go.wp_at_zero Go.wp_at_succ

set_option maxHeartbeats 800000 in
theorem sameLists_t (A A2 : Option Addr) (n c n2 c2 b1 b2 : Nat) (hs hs2 : List H) (F : List (List Int)) (w : World) (h : Own2 b1 w A n c hs F) (h2 : Own2 b2 w A2 n2 c2 hs2 F) (hn : n ≤ 1048576) (ht : ∀ f ∈ F, f.length ≤ 1048576) :
    Calls Tryz.prog 8 #[.slice A n c, .slice A2 n2 c2] w (Ret w (.bool true)) := by
  obtain rfl : n = n2 := h.flen.symm.trans h2.flen
  have HL := Lib.hid h.flen
  have H1 := Lib.hid h
  have H2 := Lib.hid h2
  have HT := Lib.hid ht
  have hne : ((n : Int) != (n : Int)) = false := by simp
  clear h h2 ht
  go_enter Tryz.func8, Tryz.ntmps8
  go_wp2_with fail
  go_loopw [5] (fun e5 wr => ∃ j : Nat, j ≤ n ∧ e5 = .int .i64 j ∧ Below w.heap.size w wr) (fun e5 _ => n - (intOf e5).toNat)
  case atStart => exact ⟨0, Nat.zero_le _, rfl, Below.refl _ _⟩
  case round =>
    obtain ⟨j, hj, rfl, hb⟩ := hrel
    by_cases hlt : j < n
    · have hj0 : (0 : Int) ≤ (j : Int) := by omega
      have hj1 : (j : Int) < (n : Int) := by omega
      have hjF : j < F.length := by rw [HL.out]; exact hlt
      have hjh : j < hs.length := by rw [H1.out.hlen]; exact hlt
      have hjh2 : j < hs2.length := by rw [H2.out.hlen]; exact hlt
      have k1 := H1.out.below hb
      have k2 := H2.out.below hb
      obtain ⟨g, off, hA, hg, d1⟩ := k1.at_ hjh
      obtain ⟨g2, off2, hA2, hg2, d2⟩ := k2.at_ hjh2
      have r1 := k1.rd hjh hjF
      have r2 := k2.rd hjh2 hjF
      have l1 := k1.rlen hjh hjF
      have l2 := k2.rlen hjh2 hjF
      have l3 := HT.out _ (List.getElem_mem hjF)
      obtain ⟨⟨B, m, cb⟩, hx⟩ : ∃ x, hs[j] = x := ⟨_, rfl⟩
      obtain ⟨⟨B2, m2, cb2⟩, hx2⟩ : ∃ x, hs2[j] = x := ⟨_, rfl⟩
      obtain ⟨f, hf⟩ : ∃ f, F[j] = f := ⟨_, rfl⟩
      rw [hx] at d1 r1 l1
      rw [hx2] at d2 r2 l2
      rw [hf] at r1 r2 l1 l2 l3
      have R1 := Lib.hid r1
      have R2 := Lib.hid r2
      have L1 := Lib.hid l1
      have L2 := Lib.hid l2
      have hm : m ≤ 1099511627776 := by simp only at l1; omega
      subst hA hA2
      dsimp only at d1 d2
      clear hx hx2 hf k1 k2 r1 r2 l1 l2 l3
      go_wp2_with fail
      (refine wp_region_below (by kernel_rfl) (by kernel_rfl) ?_; (repeat (first | go_big_quiet_skip | (refine quietV (v := ?_) (by rfl) rfl (fun w' hbw => ?_) ?_; rotate_left; ((try dsimp only at hbw); have hbc := (bcell hbw).1; have hbf := (bcell hbw).2; go_simp; first | done | with_reducible rfl | exact callsBB (sameInts_t B B2 m cb m2 cb2 f _ (R1.out.below hbw) (R2.out.below hbw) L1.out L2.out hm) rfl hbw); simp only [List.setIfInBounds_toArray, List.set_cons_zero, List.set_cons_succ]))); refine wpQuiet_nil ?_; intro wq hbq)
      go_wp2_with fail
      exact ⟨⟨j + 1, by omega, by go_num, bel_trans hb hbq⟩, by simp [intOf]; omega⟩
    · have hj1 : ¬ (j : Int) < (n : Int) := by omega
      go_wp2_with fail
      go_ret
      exact ⟨rfl, hb⟩
end Go.Proofs.YtcgjnonlndaoeaaGreat

/- The law on puzzles. -/
namespace Go.Proofs.YtcgjnonlndaoeaaGreat
open Go.RowKit
set_option linter.unusedVariables false
attribute [local go_sem ↓] Go.wp_at_zero Go.wp_at_succ

set_option maxRecDepth 100000 in
set_option maxHeartbeats 6400000 in
theorem law_FnPuzzles (A : Option Addr) (n c : Nat) (bs0 : List UInt8) (w : World) (hr : Rd w A (vB bs0)) (hl : bs0.length = n) (hm : n ≤ maxLen) :
    Calls Tryz.prog 3 #[.slice A n c] w (Ret w (.bool true)) := by
  have HR := Lib.hid hr
  have HL := Lib.hid hl
  clear hr hl
  by_cases hbig : (n : Int) > 1048576
  · have hd : decide ((n : Int) > 1048576) = true := decide_eq_true hbig
    go_enter Tryz.func3, Tryz.ntmps3
    go_wp2_with fail
    refine (big_l A n c w).mono ?_
    rw [hd]
    rintro e w1 ⟨rfl, hb1⟩
    clear hd
    go_wp2_with fail
    go_ret
    exact ⟨rfl, hb1⟩
  · have hd : decide ((n : Int) > 1048576) = false := decide_eq_false hbig
    have hn : n ≤ 1048576 := by omega
    clear hbig hm
    go_enter Tryz.func3, Tryz.ntmps3
    go_wp2_with fail
    refine (big_l A n c w).mono ?_
    rw [hd]
    rintro e w1 ⟨rfl, hb1⟩
    have HB1 := Lib.hid hb1
    clear hd hb1
    go_wp2_with fail
    refine (DrawPuzzleSolutions_s A n c bs0 w1 (HR.out.below HB1.out) HL.out hn).mono ?_
    rintro e w2 ⟨m, k, D, cD, rows, B, q, cB, hs, P, rfl, hr2, hl2, hk6, hD2, hP2, hq, hb2⟩
    have ht2 := totC_le70 hP2 hq
    have htm : totC P ≤ 1048576 := by omega
    have hqm : q ≤ 1048576 := by omega
    obtain ⟨W, hW⟩ : ∃ W : Int, (m : Int) = W := ⟨_, rfl⟩
    rw [hW]
    clear hW
    have ba := bel_alloc (Below.refl w2.heap.size w2) (.cells #[.int .i64 W, .slice D k cD] 26)
    have HN := Lib.hid (Blk.new w2 26 #[.int .i64 W, .slice D k cD])
    have HD := Lib.hid (hr2.below ba)
    have HP := Lib.hid (hP2.rdp.below ba)
    have HLR := Lib.hid hl2
    have HB3 := Lib.hid (bel_trans (bel_trans HB1.out hb2) ba)
    obtain ⟨w3, hw3⟩ : ∃ w3, w2.alloc (.cells #[.int .i64 W, .slice D k cD] 26) = w3 := ⟨_, rfl⟩
    rw [hw3] at HN HD HP HB3
    have HW3 := Lib.hid hw3
    clear ba hw3 hr2 hl2 hD2 hP2 hb2 ht2
    go_upto_region 4 with fail
    rw [HW3.out]
    clear HW3
    have c0 : w3.cell? ⟨w2.heap.size, 0, none⟩ = some (.int .i64 W) := by simpa using HN.out.cell 0
    have c1 : w3.cell? ⟨w2.heap.size, 1, none⟩ = some (.slice D k cD) := by simpa using HN.out.cell 1
    obtain ⟨gr, hgr⟩ : ∃ gr, w2.heap.size = gr := ⟨_, rfl⟩
    rw [hgr] at HN c0 c1 ⊢
    clear hgr
    obtain ⟨F, hF⟩ : ∃ F, psV W rows P = F := ⟨_, rfl⟩
    obtain ⟨isb, hisb⟩ : ∃ b, (isReg W rows && pcs P) = b := ⟨_, rfl⟩
    have HFv := Lib.hid hF
    have HIS := Lib.hid hisb
    clear hF hisb
    go_wp2_with fail
    refine (PuzzleSolutions_i W D B k cD q cB rows hs P w3 HD.out HLR.out HP.out hqm htm).mono ?_
    rw [HFv.out, HIS.out]
    rintro e w4 ⟨A5, n5, c5, gs5, rfl, ho5, hb4⟩
    have HO5 := Lib.hid ho5
    have HE4 := Lib.hid hb4
    have HN4 := Lib.hid (HN.out.below hb4)
    have c2 : w4.cell? ⟨gr, 0, none⟩ = some (.int .i64 W) := by simpa using HN4.out.cell 0
    have c3 : w4.cell? ⟨gr, 1, none⟩ = some (.slice D k cD) := by simpa using HN4.out.cell 1
    clear ho5 hb4 c0 c1
    go_wp2_with fail
    refine (PuzzleSolutions_s W D B k cD q cB rows hs P w4 (HD.out.below HE4.out) HLR.out (HP.out.below HE4.out) hqm htm).mono ?_
    rw [HFv.out, HIS.out]
    rintro e w5 ⟨A6, n6, c6, gs6, rfl, ho6, hb5⟩
    have HO6 := Lib.hid ho6
    have HO55 := Lib.hid (HO5.out.below hb5)
    have HE5 := Lib.hid (bel_trans HE4.out hb5)
    have HN5 := Lib.hid (HN4.out.below hb5)
    have c0 : w5.cell? ⟨gr, 0, none⟩ = some (.int .i64 W) := by simpa using HN5.out.cell 0
    have c1 : w5.cell? ⟨gr, 1, none⟩ = some (.slice D k cD) := by simpa using HN5.out.cell 1
    have cl := HN5.out.lt
    clear ho6 hb5 c2 c3 HO5 HN4 HN
    have hFl : F.length ≤ 300 := by rw [← HFv.out]; exact psV_len W rows P
    have HFS : Hid (∀ x ∈ F, solV W rows P x = true) := fun x hx => psV_sol (by rw [HFv.out]; exact hx)
    have hPl := HP.out.flen
    have HFL : Hid (∀ x ∈ F, x.length ≤ 5) := fun x hx => by
      have h1 := HFS.out x hx
      unfold solV at h1
      simp only [Bool.and_eq_true, beq_iff_eq] at h1
      omega
    have hn5 : n5 ≤ 300 := by have := HO55.out.flen; omega
    have hn6 : n6 ≤ 300 := by have := HO6.out.flen; omega
    have hsne : (isb != isb) = false := by simp
    obtain ⟨cs, hcs⟩ : ∃ cs, csV W rows P = cs := ⟨_, rfl⟩
    have HCS := Lib.hid hcs
    have hcne : (cs != cs) = false := by simp
    have HSL : Hid (∀ w', Below w5.heap.size w5 w' → Calls Tryz.prog 8 #[.slice A5 n5 c5, .slice A6 n6 c6] w' (Ret w' (.bool true))) := fun w' hb => sameLists_t A5 A6 n5 c5 n6 c6 _ _ gs5 gs6 F w' (HO55.out.below hb) (HO6.out.below hb) (by omega) (fun f hf => by have := HFL.out f hf; omega)
    have HCI : Hid (∀ w', Below w5.heap.size w5 w' → Calls Tryz.prog 9 #[.agg #[.int .i64 W, .slice D k cD], .slice B q cB] w' (Ret w' (.int .i64 cs))) := fun w' hb => HCS.out ▸ CountSolutions_i W D B k cD q cB rows hs P w' (HD.out.below (bel_trans HE5.out hb)) HLR.out (HP.out.below (bel_trans HE5.out hb)) hqm htm
    have HCC : Hid (∀ w', Below w5.heap.size w5 w' → Calls Tryz.prog 10 #[.agg #[.int .i64 W, .slice D k cD], .slice B q cB] w' (Ret w' (.int .i64 cs))) := fun w' hb => HCS.out ▸ CountSolutions_s W D B k cD q cB rows hs P w' (HD.out.below (bel_trans HE5.out hb)) HLR.out (HP.out.below (bel_trans HE5.out hb)) hqm htm
    clear hcs hPl
    go_wp2_with fail
    (refine wp_region_below (by kernel_rfl) (by kernel_rfl) ?_; (repeat (first | go_big_quiet_skip | (refine quietV (v := ?_) (by rfl) rfl (fun w' hbw => ?_) ?_; rotate_left; ((try dsimp only at hbw); have hbc := (bcell hbw).1; have hbf := (bcell hbw).2; go_simp; first | done | with_reducible rfl | first | (with_reducible exact callsB (v := .bool true) (HSL.out _ (by with_reducible assumption)) hbw) | (with_reducible exact callsB (v := .int .i64 cs) (HCI.out _ (by with_reducible assumption)) hbw) | (with_reducible exact callsB (v := .int .i64 cs) (HCC.out _ (by with_reducible assumption)) hbw)); simp only [List.setIfInBounds_toArray, List.set_cons_zero, List.set_cons_succ]))); refine wpQuiet_nil ?_; intro w6 hb6)
    have HB6 := Lib.hid (bel_trans HE5.out hb6)
    have HB36 := Lib.hid (bel_trans HB3.out HB6.out)
    have HO66 := Lib.hid (HO6.out.below hb6)
    have HN6 := Lib.hid (HN5.out.below hb6)
    clear hb6 c0 c1 cl HO6 HO55 HSL HCI HCC HE5 HE4 HN5 hsne hcne
    go_wp2_with fail
    go_loopw [9] (fun e9 wr => ∃ i : Nat, i ≤ n6 ∧ e9 = .int .i64 i ∧ Below w6.heap.size w6 wr) (fun e9 _ => n6 - (intOf e9).toNat)
    case atStart => exact ⟨0, Nat.zero_le _, rfl, Below.refl _ _⟩
    case round =>
      obtain ⟨i, hi, rfl, hb⟩ := hrel
      have HV := Lib.hid hb
      clear hb
      by_cases hlt : i < n6
      · have hi0 : (0 : Int) ≤ (i : Int) := by omega
        have hi1 : (i : Int) < (n6 : Int) := by omega
        have HOr := Lib.hid (HO66.out.below HV.out)
        have hil : i < gs6.length := by rw [HOr.out.hlen]; exact hlt
        have hjF : i < F.length := by have h1 := HOr.out.len; omega
        obtain ⟨gl, off, hA6, hgl, d0⟩ := HOr.out.at_ hil
        have HOR := Lib.hid (Rd.of_own (HOr.out.row i hil hjF))
        have HKE := Lib.hid (HOr.out.rlen hil hjF)
        have HKS := Lib.hid (HFS.out _ (List.getElem_mem hjF))
        have hkl := HFL.out _ (List.getElem_mem hjF)
        obtain ⟨⟨E, kE, cE⟩, hE⟩ : ∃ x, gs6[i]'hil = x := ⟨_, rfl⟩
        obtain ⟨ls, hls⟩ : ∃ ls, F[i]'hjF = ls := ⟨_, rfl⟩
        rw [hE, hls] at HOR HKE
        rw [hls] at HKS hkl
        rw [hE] at d0
        dsimp only at HOR HKE d0
        have hkE : kE ≤ 1048576 := by have := HKE.out; omega
        have hN := HN6.out.below HV.out
        have c0 : wr.cell? ⟨gr, 0, none⟩ = some (.int .i64 W) := by simpa using hN.cell 0
        have c1 : wr.cell? ⟨gr, 1, none⟩ = some (.slice D k cD) := by simpa using hN.cell 1
        have cl := hN.lt
        have HSO : Hid (∀ w', Below wr.heap.size wr w' → Calls Tryz.prog 11 #[.agg #[.int .i64 W, .slice D k cD], .slice B q cB, .slice E kE cE] w' (Ret w' (.bool true))) := fun w' hb => HKS.out ▸ IsSolution_i W D B E k cD q cB kE cE rows ls hs P w' (HD.out.below (bel_trans HB6.out (bel_trans HV.out hb))) HLR.out (HP.out.below (bel_trans HB6.out (bel_trans HV.out hb))) hqm htm (HOR.out.below hb) HKE.out hkE
        subst hA6
        clear hE hls hN hjF hil hkl HOr
        go_wp2_with fail
        (refine wp_region_below (by kernel_rfl) (by kernel_rfl) ?_; (repeat (first | go_big_quiet_skip | (refine quietV (v := ?_) (by rfl) rfl (fun w' hbw => ?_) ?_; rotate_left; ((try dsimp only at hbw); have hbc := (bcell hbw).1; have hbf := (bcell hbw).2; go_simp; first | done | with_reducible rfl | (with_reducible exact callsB (v := .bool true) (HSO.out _ (by with_reducible assumption)) hbw)); simp only [List.setIfInBounds_toArray, List.set_cons_zero, List.set_cons_succ]))); refine wpQuiet_nil ?_; intro w7 hb7)
        have HV7 := Lib.hid (bel_trans HV.out hb7)
        clear hb7 d0 c0 c1 cl HSO
        go_wp2_with fail
        exact ⟨⟨i + 1, by omega, by go_num, HV7.out⟩, by simp [intOf]; omega⟩
      · have hi1 : ¬ (i : Int) < (n6 : Int) := by omega
        have HW1 := Lib.hid (bel_trans HB36.out HV.out)
        clear HV HB6 HB36 HO66 HN6 HFS HFL HD HP HLR
        go_wp2_with fail
        refine (DrawCountWithHint_s A n c bs0 wr (HR.out.below HW1.out) HL.out hn).mono ?_
        rintro e y1 ⟨m1, k1, D1, cD1, rows1, B1, q1, cB1, hs1, P1, E1, kE1, cE1, ls1, rfl, hr1, hl1, hk1, hP1, hq1, hrE1, hlE1, hkE1, hb1⟩
        have ht1 := totC_le70 hP1 hq1
        have htm1 : totC P1 ≤ 1048576 := by omega
        have hqm1 : q1 ≤ 1048576 := by omega
        have hkm1 : kE1 ≤ 1048576 := by omega
        obtain ⟨W1, hWW1⟩ : ∃ W : Int, (m1 : Int) = W := ⟨_, rfl⟩
        rw [hWW1]
        clear hWW1
        have ba := bel_alloc (Below.refl y1.heap.size y1) (.cells #[.int .i64 W1, .slice D1 k1 cD1] 26)
        have HN1 := Lib.hid (Blk.new y1 26 #[.int .i64 W1, .slice D1 k1 cD1])
        have HD1 := Lib.hid (hr1.below ba)
        have HP1 := Lib.hid (hP1.rdp.below ba)
        have HE1 := Lib.hid (hrE1.below ba)
        have HLR1 := Lib.hid hl1
        have HLE1 := Lib.hid hlE1
        have HX1 := Lib.hid (bel_trans (bel_trans HW1.out hb1) ba)
        obtain ⟨x1, hx1⟩ : ∃ x, y1.alloc (.cells #[.int .i64 W1, .slice D1 k1 cD1] 26) = x := ⟨_, rfl⟩
        rw [hx1] at HN1 HD1 HP1 HE1 HX1
        have HQ1 := Lib.hid hx1
        clear ba hx1 hr1 hl1 hP1 hrE1 hlE1 hb1 ht1
        go_upto_region 14 with fail
        rw [HQ1.out]
        clear HQ1
        have c0 : x1.cell? ⟨y1.heap.size, 0, none⟩ = some (.int .i64 W1) := by simpa using HN1.out.cell 0
        have c1 : x1.cell? ⟨y1.heap.size, 1, none⟩ = some (.slice D1 k1 cD1) := by simpa using HN1.out.cell 1
        have cl := HN1.out.lt
        obtain ⟨gr1, hgr1⟩ : ∃ gr, y1.heap.size = gr := ⟨_, rfl⟩
        rw [hgr1] at HN1 c0 c1 cl ⊢
        clear hgr1
        have HT1 := Lib.hid (Below.refl x1.heap.size x1)
        obtain ⟨cw, hcw⟩ : ∃ cw, cwhV W1 rows1 P1 ls1 = cw := ⟨_, rfl⟩
        obtain ⟨cs1, hcs1⟩ : ∃ cs, csV W1 rows1 P1 = cs := ⟨_, rfl⟩
        have hle := cwh_le W1 rows1 P1 ls1
        rw [hcw, hcs1] at hle
        have HCW := Lib.hid hcw
        have HCS1 := Lib.hid hcs1
        have hcw1 : (cw != cw) = false := by simp
        have hgt : ¬ cw > cs1 := by omega
        clear hcw hcs1 hle
        go_wp2_with fail
        refine (CountWithHint_i W1 D1 B1 E1 k1 cD1 q1 cB1 kE1 cE1 rows1 ls1 hs1 P1 x1 (HD1.out.below HT1.out) HLR1.out (HP1.out.below HT1.out) hqm1 htm1 (HE1.out.below HT1.out) HLE1.out hkm1).mono ?_
        rw [HCW.out]
        rintro e v1 ⟨rfl, hv1⟩
        have HU := Lib.hid (bel_trans HT1.out hv1)
        clear HT1
        have HT1 := HU
        clear HU c0 c1 cl hv1
        have hN := HN1.out.below HT1.out
        have c0 : v1.cell? ⟨gr1, 0, none⟩ = some (.int .i64 W1) := by simpa using hN.cell 0
        have c1 : v1.cell? ⟨gr1, 1, none⟩ = some (.slice D1 k1 cD1) := by simpa using hN.cell 1
        have cl := hN.lt
        clear hN
        go_wp2_with fail
        refine (CountWithHint_s W1 D1 B1 E1 k1 cD1 q1 cB1 kE1 cE1 rows1 ls1 hs1 P1 v1 (HD1.out.below HT1.out) HLR1.out (HP1.out.below HT1.out) hqm1 htm1 (HE1.out.below HT1.out) HLE1.out hkm1).mono ?_
        rw [HCW.out]
        rintro e v2 ⟨rfl, hv2⟩
        have HU := Lib.hid (bel_trans HT1.out hv2)
        clear HT1
        have HT1 := HU
        clear HU c0 c1 cl hv2
        have hN := HN1.out.below HT1.out
        have c0 : v2.cell? ⟨gr1, 0, none⟩ = some (.int .i64 W1) := by simpa using hN.cell 0
        have c1 : v2.cell? ⟨gr1, 1, none⟩ = some (.slice D1 k1 cD1) := by simpa using hN.cell 1
        have cl := hN.lt
        clear hN
        go_wp2_with fail
        refine (CountSolutions_i W1 D1 B1 k1 cD1 q1 cB1 rows1 hs1 P1 v2 (HD1.out.below HT1.out) HLR1.out (HP1.out.below HT1.out) hqm1 htm1).mono ?_
        rw [HCS1.out]
        rintro e v3 ⟨rfl, hv3⟩
        have HU := Lib.hid (bel_trans HT1.out hv3)
        clear HT1
        have HT1 := HU
        clear HU c0 c1 cl hv3
        have hN := HN1.out.below HT1.out
        have c0 : v3.cell? ⟨gr1, 0, none⟩ = some (.int .i64 W1) := by simpa using hN.cell 0
        have c1 : v3.cell? ⟨gr1, 1, none⟩ = some (.slice D1 k1 cD1) := by simpa using hN.cell 1
        have cl := hN.lt
        clear hN
        have HW2 := Lib.hid (bel_trans HX1.out HT1.out)
        clear HT1 c0 c1 cl HN1 HD1 HP1 HE1 HLR1 HLE1 HX1 HCW HCS1 HW1
        go_wp2_with fail
        refine (DrawFewestHints_s A n c bs0 v3 (HR.out.below HW2.out) HL.out hn).mono ?_
        rintro e y2 ⟨m2, k2, D2, cD2, rows2, B2, q2, cB2, hs2, P2, E2, kE2, cE2, ls2, rfl, hr2, hl2, hk2, hP2, hq2, hrE2, hlE2, hkE2, hb2⟩
        have ht2 := totC_le70 hP2 hq2
        have htm2 : totC P2 ≤ 1048576 := by omega
        have hqm2 : q2 ≤ 1048576 := by omega
        have hkm2 : kE2 ≤ 1048576 := by omega
        obtain ⟨W2, hWW2⟩ : ∃ W : Int, (m2 : Int) = W := ⟨_, rfl⟩
        rw [hWW2]
        clear hWW2
        have ba := bel_alloc (Below.refl y2.heap.size y2) (.cells #[.int .i64 W2, .slice D2 k2 cD2] 26)
        have HN2 := Lib.hid (Blk.new y2 26 #[.int .i64 W2, .slice D2 k2 cD2])
        have HD2 := Lib.hid (hr2.below ba)
        have HP2 := Lib.hid (hP2.rdp.below ba)
        have HE2 := Lib.hid (hrE2.below ba)
        have HLR2 := Lib.hid hl2
        have HLE2 := Lib.hid hlE2
        have HX2 := Lib.hid (bel_trans (bel_trans HW2.out hb2) ba)
        obtain ⟨x2, hx2⟩ : ∃ x, y2.alloc (.cells #[.int .i64 W2, .slice D2 k2 cD2] 26) = x := ⟨_, rfl⟩
        rw [hx2] at HN2 HD2 HP2 HE2 HX2
        have HQ2 := Lib.hid hx2
        clear ba hx2 hr2 hl2 hP2 hrE2 hlE2 hb2 ht2
        go_upto_region 18 with fail
        rw [HQ2.out]
        clear HQ2
        have c0 : x2.cell? ⟨y2.heap.size, 0, none⟩ = some (.int .i64 W2) := by simpa using HN2.out.cell 0
        have c1 : x2.cell? ⟨y2.heap.size, 1, none⟩ = some (.slice D2 k2 cD2) := by simpa using HN2.out.cell 1
        have cl := HN2.out.lt
        obtain ⟨gr2, hgr2⟩ : ∃ gr, y2.heap.size = gr := ⟨_, rfl⟩
        rw [hgr2] at HN2 c0 c1 cl ⊢
        clear hgr2
        have HT2 := Lib.hid (Below.refl x2.heap.size x2)
        obtain ⟨fw, hfw⟩ : ∃ fw, fewV W2 rows2 P2 ls2 = fw := ⟨_, rfl⟩
        obtain ⟨sv, hsv⟩ : ∃ sv, solV W2 rows2 P2 ls2 = sv := ⟨_, rfl⟩
        have HFW := Lib.hid hfw
        have HSV := Lib.hid hsv
        have hfl : fw.length ≤ 5 := by rw [← hfw]; exact fewV_len _ _ _ _
        have hone : Hid (sv = true → cwhV W2 rows2 P2 fw = 1) := fun h => by rw [← hfw]; exact few_one (by rw [hsv]; exact h)
        have hsvn : (sv != sv) = false := by simp
        clear hfw hsv
        go_wp2_with fail
        refine (FewestHints_i W2 D2 B2 E2 k2 cD2 q2 cB2 kE2 cE2 rows2 ls2 hs2 P2 x2 (HD2.out.below HT2.out) HLR2.out (HP2.out.below HT2.out) hqm2 htm2 (HE2.out.below HT2.out) HLE2.out hkm2).mono ?_
        rw [HFW.out, HSV.out]
        rintro e u1 ⟨G1, g1, cg1, rfl, ho1, hu1⟩
        have HG1 := Lib.hid (Rd.of_own ho1)
        have HGL1 := Lib.hid (by have h := own_len ho1; rw [vI_length] at h; omega : fw.length = g1)
        clear ho1
        have HU := Lib.hid (bel_trans HT2.out hu1)
        clear HT2
        have HT2 := HU
        clear HU c0 c1 cl hu1
        have hN := HN2.out.below HT2.out
        have c0 : u1.cell? ⟨gr2, 0, none⟩ = some (.int .i64 W2) := by simpa using hN.cell 0
        have c1 : u1.cell? ⟨gr2, 1, none⟩ = some (.slice D2 k2 cD2) := by simpa using hN.cell 1
        have cl := hN.lt
        clear hN
        go_wp2_with fail
        refine (FewestHints_s W2 D2 B2 E2 k2 cD2 q2 cB2 kE2 cE2 rows2 ls2 hs2 P2 u1 (HD2.out.below HT2.out) HLR2.out (HP2.out.below HT2.out) hqm2 htm2 (HE2.out.below HT2.out) HLE2.out hkm2).mono ?_
        rw [HFW.out, HSV.out]
        rintro e u2 ⟨G2, g2, cg2, rfl, ho2, hu2⟩
        have HG2 := Lib.hid (Rd.of_own ho2)
        have HGL2 := Lib.hid (by have h := own_len ho2; rw [vI_length] at h; omega : fw.length = g2)
        have HG12 := Lib.hid (HG1.out.below hu2)
        have hg2m : g2 ≤ 1048576 := by have := HGL2.out; omega
        clear ho2 HG1
        have HU := Lib.hid (bel_trans HT2.out hu2)
        clear HT2
        have HT2 := HU
        clear HU c0 c1 cl hu2
        have hN := HN2.out.below HT2.out
        have c0 : u2.cell? ⟨gr2, 0, none⟩ = some (.int .i64 W2) := by simpa using hN.cell 0
        have c1 : u2.cell? ⟨gr2, 1, none⟩ = some (.slice D2 k2 cD2) := by simpa using hN.cell 1
        have cl := hN.lt
        clear hN
        go_wp2_with fail
        refine (sameInts_t G1 G2 g1 cg1 g2 cg2 fw u2 HG12.out HG2.out HGL1.out HGL2.out (by have := HGL1.out; omega)).mono ?_
        rintro e u3 ⟨rfl, hu3⟩
        have HG23 := Lib.hid (HG2.out.below hu3)
        clear HG2 HG12
        have HU := Lib.hid (bel_trans HT2.out hu3)
        clear HT2
        have HT2 := HU
        clear HU c0 c1 cl hu3
        have hN := HN2.out.below HT2.out
        have c0 : u3.cell? ⟨gr2, 0, none⟩ = some (.int .i64 W2) := by simpa using hN.cell 0
        have c1 : u3.cell? ⟨gr2, 1, none⟩ = some (.slice D2 k2 cD2) := by simpa using hN.cell 1
        have cl := hN.lt
        clear hN
        go_wp2_with fail
        refine (IsSolution_s W2 D2 B2 E2 k2 cD2 q2 cB2 kE2 cE2 rows2 ls2 hs2 P2 u3 (HD2.out.below HT2.out) HLR2.out (HP2.out.below HT2.out) hqm2 htm2 (HE2.out.below HT2.out) HLE2.out hkm2).mono ?_
        rw [HSV.out]
        rintro e u4 ⟨rfl, hu4⟩
        have HG24 := Lib.hid (HG23.out.below hu4)
        clear HG23
        have HU := Lib.hid (bel_trans HT2.out hu4)
        clear HT2
        have HT2 := HU
        clear HU c0 c1 cl hu4
        have hN := HN2.out.below HT2.out
        have c0 : u4.cell? ⟨gr2, 0, none⟩ = some (.int .i64 W2) := by simpa using hN.cell 0
        have c1 : u4.cell? ⟨gr2, 1, none⟩ = some (.slice D2 k2 cD2) := by simpa using hN.cell 1
        have cl := hN.lt
        clear hN
        cases sv with
        | true =>
          have HON := Lib.hid (hone.out rfl)
          clear hone
          go_wp2_with fail
          refine (CountWithHint_i W2 D2 B2 G2 k2 cD2 q2 cB2 g2 cg2 rows2 fw hs2 P2 u4 (HD2.out.below HT2.out) HLR2.out (HP2.out.below HT2.out) hqm2 htm2 HG24.out HGL2.out hg2m).mono ?_
          rw [HON.out]
          rintro e u5 ⟨rfl, hu5⟩
          have HW3 := Lib.hid (bel_trans (bel_trans HX2.out HT2.out) hu5)
          clear HT2 hu5 c0 c1 cl HN2 HD2 HP2 HE2 HLR2 HLE2 HX2 HFW HSV HON HG24 HGL1 HGL2 HW2
          go_wp2_with fail
          refine (DrawIsSolution_s A n c bs0 u5 (HR.out.below HW3.out) HL.out hn).mono ?_
          rintro e y3 ⟨m3, k3, D3, cD3, rows3, B3, q3, cB3, hs3, P3, E3, kE3, cE3, ls3, rfl, hr3, hl3, hk3, hP3, hq3, hrE3, hlE3, hkE3, hb3⟩
          have ht3 := totC_le70 hP3 hq3
          have htm3 : totC P3 ≤ 1048576 := by omega
          have hqm3 : q3 ≤ 1048576 := by omega
          have hkm3 : kE3 ≤ 1048576 := by omega
          obtain ⟨W3, hWW3⟩ : ∃ W : Int, (m3 : Int) = W := ⟨_, rfl⟩
          rw [hWW3]
          clear hWW3
          have ba := bel_alloc (Below.refl y3.heap.size y3) (.cells #[.int .i64 W3, .slice D3 k3 cD3] 26)
          have HN3 := Lib.hid (Blk.new y3 26 #[.int .i64 W3, .slice D3 k3 cD3])
          have HD3 := Lib.hid (hr3.below ba)
          have HP3 := Lib.hid (hP3.rdp.below ba)
          have HE3 := Lib.hid (hrE3.below ba)
          have HLR3 := Lib.hid hl3
          have HLE3 := Lib.hid hlE3
          have HX3 := Lib.hid (bel_trans (bel_trans HW3.out hb3) ba)
          obtain ⟨x3, hx3⟩ : ∃ x, y3.alloc (.cells #[.int .i64 W3, .slice D3 k3 cD3] 26) = x := ⟨_, rfl⟩
          rw [hx3] at HN3 HD3 HP3 HE3 HX3
          have HQ3 := Lib.hid hx3
          clear ba hx3 hr3 hl3 hP3 hrE3 hlE3 hb3 ht3
          go_upto_region 23 with fail
          rw [HQ3.out]
          clear HQ3
          have c0 : x3.cell? ⟨y3.heap.size, 0, none⟩ = some (.int .i64 W3) := by simpa using HN3.out.cell 0
          have c1 : x3.cell? ⟨y3.heap.size, 1, none⟩ = some (.slice D3 k3 cD3) := by simpa using HN3.out.cell 1
          have cl := HN3.out.lt
          obtain ⟨gr3, hgr3⟩ : ∃ gr, y3.heap.size = gr := ⟨_, rfl⟩
          rw [hgr3] at HN3 c0 c1 cl ⊢
          clear hgr3
          have HT3 := Lib.hid (Below.refl x3.heap.size x3)
          clear c0 c1 cl
          go_wp2_with fail
          refine (DrawPiecesArea_s A n c bs0 x3 (HR.out.below HX3.out) HL.out hn).mono ?_
          rintro e z1 ⟨BQ, qq, cQ, hQ, PQ, rfl, hPQ, hqq, hz1⟩
          have htQ := totC_le70 hPQ hqq
          have htmQ : totC PQ ≤ 1048576 := by omega
          have HPQ := Lib.hid hPQ.rdp
          have HXZ := Lib.hid (bel_trans HX3.out hz1)
          have HZ1 := Lib.hid hz1
          have hN := HN3.out.below hz1
          have c0 : z1.cell? ⟨gr3, 0, none⟩ = some (.int .i64 W3) := by simpa using hN.cell 0
          have c1 : z1.cell? ⟨gr3, 1, none⟩ = some (.slice D3 k3 cD3) := by simpa using hN.cell 1
          have cl := hN.lt
          obtain ⟨s3, hs3v⟩ : ∃ s3, solV W3 rows3 P3 ls3 = s3 := ⟨_, rfl⟩
          obtain ⟨pa, hpa⟩ : ∃ pa, paV PQ = pa := ⟨_, rfl⟩
          have HS3 := Lib.hid hs3v
          have HPA := Lib.hid hpa
          have hse : (s3 == s3) = true := by simp
          have hpe : (pa == pa) = true := by simp
          have HI3 : Hid (∀ w', Below z1.heap.size z1 w' → Calls Tryz.prog 11 #[.agg #[.int .i64 W3, .slice D3 k3 cD3], .slice B3 q3 cB3, .slice E3 kE3 cE3] w' (Ret w' (.bool s3))) := fun w' hb => HS3.out ▸ IsSolution_i W3 D3 B3 E3 k3 cD3 q3 cB3 kE3 cE3 rows3 ls3 hs3 P3 w' (HD3.out.below (bel_trans HZ1.out hb)) HLR3.out (HP3.out.below (bel_trans HZ1.out hb)) hqm3 htm3 (HE3.out.below (bel_trans HZ1.out hb)) HLE3.out hkm3
          have HJ3 : Hid (∀ w', Below z1.heap.size z1 w' → Calls Tryz.prog 19 #[.agg #[.int .i64 W3, .slice D3 k3 cD3], .slice B3 q3 cB3, .slice E3 kE3 cE3] w' (Ret w' (.bool s3))) := fun w' hb => HS3.out ▸ IsSolution_s W3 D3 B3 E3 k3 cD3 q3 cB3 kE3 cE3 rows3 ls3 hs3 P3 w' (HD3.out.below (bel_trans HZ1.out hb)) HLR3.out (HP3.out.below (bel_trans HZ1.out hb)) hqm3 htm3 (HE3.out.below (bel_trans HZ1.out hb)) HLE3.out hkm3
          have HA3 : Hid (∀ w', Below z1.heap.size z1 w' → Calls Tryz.prog 22 #[.slice BQ qq cQ] w' (Ret w' (.int .i64 pa))) := fun w' hb => HPA.out ▸ PiecesArea_i BQ qq cQ hQ PQ w' (HPQ.out.below hb) (by omega) htmQ
          have HC3 : Hid (∀ w', Below z1.heap.size z1 w' → Calls Tryz.prog 23 #[.slice BQ qq cQ] w' (Ret w' (.int .i64 pa))) := fun w' hb => HPA.out ▸ PiecesArea_s BQ qq cQ hQ PQ w' (HPQ.out.below hb) (by omega) htmQ
          clear hPQ hz1 htQ hN hs3v hpa
          go_wp2_with fail
          (refine wp_region_below (by kernel_rfl) (by kernel_rfl) ?_; (repeat (first | go_big_quiet_skip | (refine quietV (v := ?_) (by rfl) rfl (fun w' hbw => ?_) ?_; rotate_left; ((try dsimp only at hbw); have hbc := (bcell hbw).1; have hbf := (bcell hbw).2; go_simp; first | done | with_reducible rfl | first | (with_reducible exact callsB (v := .bool s3) (HI3.out _ (by with_reducible assumption)) hbw) | (with_reducible exact callsB (v := .bool s3) (HJ3.out _ (by with_reducible assumption)) hbw) | (with_reducible exact callsB (v := .int .i64 pa) (HA3.out _ (by with_reducible assumption)) hbw) | (with_reducible exact callsB (v := .int .i64 pa) (HC3.out _ (by with_reducible assumption)) hbw)); simp only [List.setIfInBounds_toArray, List.set_cons_zero, List.set_cons_succ]))); refine wpQuiet_nil ?_; intro z2 hz2)
          go_wp2_with fail
          go_ret
          exact ⟨rfl, bel_trans HXZ.out hz2⟩
        | false =>
          clear hone
          have HW3 := Lib.hid (bel_trans HX2.out HT2.out)
          clear HT2 c0 c1 cl HN2 HD2 HP2 HE2 HLR2 HLE2 HX2 HFW HSV HG24 HGL1 HGL2 HW2
          go_wp2_with fail
          refine (DrawIsSolution_s A n c bs0 u4 (HR.out.below HW3.out) HL.out hn).mono ?_
          rintro e y3 ⟨m3, k3, D3, cD3, rows3, B3, q3, cB3, hs3, P3, E3, kE3, cE3, ls3, rfl, hr3, hl3, hk3, hP3, hq3, hrE3, hlE3, hkE3, hb3⟩
          have ht3 := totC_le70 hP3 hq3
          have htm3 : totC P3 ≤ 1048576 := by omega
          have hqm3 : q3 ≤ 1048576 := by omega
          have hkm3 : kE3 ≤ 1048576 := by omega
          obtain ⟨W3, hWW3⟩ : ∃ W : Int, (m3 : Int) = W := ⟨_, rfl⟩
          rw [hWW3]
          clear hWW3
          have ba := bel_alloc (Below.refl y3.heap.size y3) (.cells #[.int .i64 W3, .slice D3 k3 cD3] 26)
          have HN3 := Lib.hid (Blk.new y3 26 #[.int .i64 W3, .slice D3 k3 cD3])
          have HD3 := Lib.hid (hr3.below ba)
          have HP3 := Lib.hid (hP3.rdp.below ba)
          have HE3 := Lib.hid (hrE3.below ba)
          have HLR3 := Lib.hid hl3
          have HLE3 := Lib.hid hlE3
          have HX3 := Lib.hid (bel_trans (bel_trans HW3.out hb3) ba)
          obtain ⟨x3, hx3⟩ : ∃ x, y3.alloc (.cells #[.int .i64 W3, .slice D3 k3 cD3] 26) = x := ⟨_, rfl⟩
          rw [hx3] at HN3 HD3 HP3 HE3 HX3
          have HQ3 := Lib.hid hx3
          clear ba hx3 hr3 hl3 hP3 hrE3 hlE3 hb3 ht3
          go_upto_region 23 with fail
          rw [HQ3.out]
          clear HQ3
          have c0 : x3.cell? ⟨y3.heap.size, 0, none⟩ = some (.int .i64 W3) := by simpa using HN3.out.cell 0
          have c1 : x3.cell? ⟨y3.heap.size, 1, none⟩ = some (.slice D3 k3 cD3) := by simpa using HN3.out.cell 1
          have cl := HN3.out.lt
          obtain ⟨gr3, hgr3⟩ : ∃ gr, y3.heap.size = gr := ⟨_, rfl⟩
          rw [hgr3] at HN3 c0 c1 cl ⊢
          clear hgr3
          have HT3 := Lib.hid (Below.refl x3.heap.size x3)
          clear c0 c1 cl
          go_wp2_with fail
          refine (DrawPiecesArea_s A n c bs0 x3 (HR.out.below HX3.out) HL.out hn).mono ?_
          rintro e z1 ⟨BQ, qq, cQ, hQ, PQ, rfl, hPQ, hqq, hz1⟩
          have htQ := totC_le70 hPQ hqq
          have htmQ : totC PQ ≤ 1048576 := by omega
          have HPQ := Lib.hid hPQ.rdp
          have HXZ := Lib.hid (bel_trans HX3.out hz1)
          have HZ1 := Lib.hid hz1
          have hN := HN3.out.below hz1
          have c0 : z1.cell? ⟨gr3, 0, none⟩ = some (.int .i64 W3) := by simpa using hN.cell 0
          have c1 : z1.cell? ⟨gr3, 1, none⟩ = some (.slice D3 k3 cD3) := by simpa using hN.cell 1
          have cl := hN.lt
          obtain ⟨s3, hs3v⟩ : ∃ s3, solV W3 rows3 P3 ls3 = s3 := ⟨_, rfl⟩
          obtain ⟨pa, hpa⟩ : ∃ pa, paV PQ = pa := ⟨_, rfl⟩
          have HS3 := Lib.hid hs3v
          have HPA := Lib.hid hpa
          have hse : (s3 == s3) = true := by simp
          have hpe : (pa == pa) = true := by simp
          have HI3 : Hid (∀ w', Below z1.heap.size z1 w' → Calls Tryz.prog 11 #[.agg #[.int .i64 W3, .slice D3 k3 cD3], .slice B3 q3 cB3, .slice E3 kE3 cE3] w' (Ret w' (.bool s3))) := fun w' hb => HS3.out ▸ IsSolution_i W3 D3 B3 E3 k3 cD3 q3 cB3 kE3 cE3 rows3 ls3 hs3 P3 w' (HD3.out.below (bel_trans HZ1.out hb)) HLR3.out (HP3.out.below (bel_trans HZ1.out hb)) hqm3 htm3 (HE3.out.below (bel_trans HZ1.out hb)) HLE3.out hkm3
          have HJ3 : Hid (∀ w', Below z1.heap.size z1 w' → Calls Tryz.prog 19 #[.agg #[.int .i64 W3, .slice D3 k3 cD3], .slice B3 q3 cB3, .slice E3 kE3 cE3] w' (Ret w' (.bool s3))) := fun w' hb => HS3.out ▸ IsSolution_s W3 D3 B3 E3 k3 cD3 q3 cB3 kE3 cE3 rows3 ls3 hs3 P3 w' (HD3.out.below (bel_trans HZ1.out hb)) HLR3.out (HP3.out.below (bel_trans HZ1.out hb)) hqm3 htm3 (HE3.out.below (bel_trans HZ1.out hb)) HLE3.out hkm3
          have HA3 : Hid (∀ w', Below z1.heap.size z1 w' → Calls Tryz.prog 22 #[.slice BQ qq cQ] w' (Ret w' (.int .i64 pa))) := fun w' hb => HPA.out ▸ PiecesArea_i BQ qq cQ hQ PQ w' (HPQ.out.below hb) (by omega) htmQ
          have HC3 : Hid (∀ w', Below z1.heap.size z1 w' → Calls Tryz.prog 23 #[.slice BQ qq cQ] w' (Ret w' (.int .i64 pa))) := fun w' hb => HPA.out ▸ PiecesArea_s BQ qq cQ hQ PQ w' (HPQ.out.below hb) (by omega) htmQ
          clear hPQ hz1 htQ hN hs3v hpa
          go_wp2_with fail
          (refine wp_region_below (by kernel_rfl) (by kernel_rfl) ?_; (repeat (first | go_big_quiet_skip | (refine quietV (v := ?_) (by rfl) rfl (fun w' hbw => ?_) ?_; rotate_left; ((try dsimp only at hbw); have hbc := (bcell hbw).1; have hbf := (bcell hbw).2; go_simp; first | done | with_reducible rfl | first | (with_reducible exact callsB (v := .bool s3) (HI3.out _ (by with_reducible assumption)) hbw) | (with_reducible exact callsB (v := .bool s3) (HJ3.out _ (by with_reducible assumption)) hbw) | (with_reducible exact callsB (v := .int .i64 pa) (HA3.out _ (by with_reducible assumption)) hbw) | (with_reducible exact callsB (v := .int .i64 pa) (HC3.out _ (by with_reducible assumption)) hbw)); simp only [List.setIfInBounds_toArray, List.set_cons_zero, List.set_cons_succ]))); refine wpQuiet_nil ?_; intro z2 hz2)
          go_wp2_with fail
          go_ret
          exact ⟨rfl, bel_trans HXZ.out hz2⟩
end Go.Proofs.YtcgjnonlndaoeaaGreat
