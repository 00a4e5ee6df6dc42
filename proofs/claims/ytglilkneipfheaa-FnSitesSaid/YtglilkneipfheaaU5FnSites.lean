/- Texts of this claim, one behind the other: part 5. -/
import Derived.Test.YtglilkneipfheaaU4FnSites
import Derived.Outline
import Derived.WalkLawsBesides
import Derived.WalkSpells
import Derived.BigQuiet
import Derived.Deep.QuietTactic
import Derived.Deep.RegionHeld3
import Derived.Deep.RegionWith
import Derived.Deep.DeepCutAuto
import Derived.Deep.CutBlock
import Derived.Deep.DrawnRows
/- The holes of a shape that has none: the program. -/
namespace Go.Proofs.Ytglilkneipfheaa
open Go.RowKit
set_option linter.unusedVariables false
attribute [local go_sem ↓] Go.wp_at_zero Go.wp_at_succ

/-- The grid's cells. -/
def vG (m : Nat) : List Value := (List.range 100).map fun i => .bool (m.testBit i)
theorem vG_len (m : Nat) : (vG m).length = 100 := by simp [vG]
theorem vG_get {m p : Nat} (h : p < 100) : (vG m)[p]? = some (.bool (m.testBit p)) := by simp [vG, h]
theorem vG_set {m p : Nat} (h : p < 100) : (vG m).set p (.bool true) = vG (m ||| 2 ^ p) := by
  apply List.ext_getElem?
  intro i
  rw [List.getElem?_set, vG_len]
  by_cases hi : i < 100
  · rw [vG_get hi, vG_get hi]
    by_cases e : p = i
    · subst e; simp [h, Nat.testBit_or]
    · simp [e, Nat.testBit_or]
  · have e : p ≠ i := by omega
    rw [if_neg e, List.getElem?_eq_none (by rw [vG_len]; omega), List.getElem?_eq_none (by rw [vG_len]; omega)]
theorem blkG_set {w : World} {g : Nat} {t : TypeId} {m p : Nat} (hB : Blk w g t (vG m).toArray) (h : p < 100) : Blk (w.setCell ⟨g, p, none⟩ (.bool true)) g t (vG (m ||| 2 ^ p)).toArray := by
  have := hB.set_ p (.bool true)
  rwa [List.setIfInBounds_toArray, vG_set h] at this
theorem blkG_cell {w : World} {g : Nat} {t : TypeId} {m p : Nat} (hB : Blk w g t (vG m).toArray) (h : p < 100) : w.cell? ⟨g, p, none⟩ = some (.bool (m.testBit p)) := by
  rw [hB.cell]; simpa using vG_get (m := m) h
theorem zeroGrid (w : World) : (zeroValue 106).run Try.prog w = .ok (.agg (vG 0).toArray) w := by kernel_rfl
attribute [local go_sem] zeroGrid
/-- The measure: places that are not marked, and the queue. -/
def isF : Value → Bool
  | .bool false => true
  | _ => false
def unW (w : World) (g : Nat) : Nat := match w.heap[g]? with
  | some (.cells cs _ _) => cs.toList.countP isF
  | _ => 0
theorem unW_of {w : World} {g : Nat} {t : TypeId} {m : Nat} (h : Blk w g t (vG m).toArray) : unW w g = un m := by
  unfold Blk at h
  unfold unW
  rw [h]
  simp only [vG, un, List.countP_map]
  congr 1
  funext i
  simp only [Function.comp]
  cases m.testBit i <;> rfl
def lenQ : Value → Nat
  | .slice _ n _ => n
  | _ => 0
theorem full_bit {p : Nat} (h : p < 100) : fullG.testBit p = true := by
  unfold fullG
  rw [Nat.testBit_two_pow_sub_one]
  simpa using h
theorem cells_bit0 {xs : List C} (h : ∀ c ∈ xs, onB c = true) : ∀ k, k ≤ xs.length → (cellsG xs k).testBit 0 = false
  | 0, _ => by simp [cellsG]
  | k + 1, hk => by
    have hx : xs.getD k (0, 0) ∈ xs := by rw [List.getD_eq_getElem?_getD, List.getElem?_eq_getElem (by omega)]; exact List.getElem_mem _
    have ho := h _ hx
    simp only [onB, Bool.and_eq_true, decide_eq_true_eq] at ho
    show (cellsG xs k ||| _).testBit 0 = false
    rw [Nat.testBit_or, cells_bit0 h k (by omega), Nat.testBit_two_pow]
    simp only [Bool.false_or, decide_eq_false_iff_not]
    unfold gp
    omega
set_option maxRecDepth 100000 in
set_option maxHeartbeats 6400000 in
theorem HolesOf_i (A : Option Addr) (n c : Nat) (xs : List C) (w : World) (hr : Rd w A (vC xs)) (hl : xs.length = n) (hs : isShape xs = true) (hf : FullI xs) :
    Calls Try.prog 99 #[.slice A n c] w (Ret w (.int .i64 0)) := by
  have hn8 := (shape_len hs).2
  rw [hl] at hn8
  have hob := shape_onB hs
  have hnn : n ≤ 1099511627776 := by omega
  obtain ⟨M0, hM0⟩ : ∃ M0, cellsG xs n = M0 := ⟨_, rfl⟩
  have hz0 := cells_bit0 hob n (by omega)
  rw [hM0] at hz0
  obtain ⟨K, hK⟩ := hf
  rw [hl, hM0] at hK
  have HR := Lib.hid hr
  have HL := Lib.hid hl
  have HS := Lib.hid hs
  have HOB := Lib.hid hob
  have HM0 := Lib.hid hM0
  have HZ0 := Lib.hid hz0
  have HKK := Lib.hid hK
  clear hr hl hs hob hM0 hz0 hK
  go_enter Try.func99, Try.ntmps99
  go_wp2_with fail
  refine (IsShape_i A n c xs _ HR.out HL.out hnn).mono ?_
  rw [HS.out]
  rintro e w1 ⟨rfl, hb1⟩
  go_wp2_with fail
  generalize hN : w1.heap.size = N
  have HN := Lib.hid hN
  have hNw : w.heap.size ≤ N := by have := hb1.size; omega
  have HI : Hid (Blk (w1.alloc (.cells (vG 0).toArray 106)) N 106 (vG 0).toArray) := by
    have := Blk.new w1 106 (vG 0).toArray
    rw [hN] at this
    exact this
  have hb2 : Below w.heap.size w (w1.alloc (.cells (vG 0).toArray 106)) := bel_alloc hb1 _
  have hNlt : N < (w1.alloc (.cells (vG 0).toArray 106)).heap.size := HI.out.lt
  clear hN
  go_loopw [18] (fun e18 wr => ∃ k : Nat, k ≤ n ∧ e18 = .int .i64 k ∧ Blk wr N 106 (vG (cellsG xs k)).toArray ∧ Below w.heap.size w wr) (fun e18 _ => n - (intOf e18).toNat)
  case atStart => exact ⟨0, Nat.zero_le _, rfl, HI.out, hb2⟩
  case round =>
    clear HI hb2 hNlt
    obtain ⟨k, hk, rfl, hB, hb⟩ := hrel
    have hNl := hB.lt
    by_cases hlt : k < n
    · have hkl : k < xs.length := by rw [HL.out]; exact hlt
      have hk0 : (0 : Int) ≤ (k : Int) := by omega
      have hk1 : (k : Int) < (n : Int) := by omega
      obtain ⟨g, off, rfl, hg, d1, d2⟩ := RdC.at_ (HR.out.below hb) hkl
      have ho := HOB.out _ (List.getElem_mem hkl)
      simp only [onB, Bool.and_eq_true, decide_eq_true_eq] at ho
      obtain ⟨⟨o1, o2⟩, o3, o4⟩ := ho
      obtain ⟨p, hp⟩ := Int.eq_ofNat_of_zero_le o1
      obtain ⟨q, hq⟩ := Int.eq_ofNat_of_zero_le o3
      have hst : cellsG xs (k + 1) = cellsG xs k ||| 2 ^ ((q + 1) * 10 + (p + 1)) := by
        show _ ||| 2 ^ gp _ = _
        rw [List.getD_eq_getElem?_getD, List.getElem?_eq_getElem hkl, Option.getD_some]
        congr 2
        unfold gp
        simp only
        omega
      rw [hp] at d1
      rw [hq] at d2
      obtain ⟨p1, hp1⟩ : ∃ p1 : Nat, p1 = p + 1 := ⟨_, rfl⟩
      obtain ⟨q1, hq1⟩ : ∃ q1 : Nat, q1 = q + 1 := ⟨_, rfl⟩
      rw [← hp1, ← hq1] at hst
      have i1 : (p : Int) + 1 = (p1 : Int) := by omega
      have i2 : (q : Int) + 1 = (q1 : Int) := by omega
      have i3 : (0 : Int) ≤ (p1 : Int) := by omega
      have i4 : (p1 : Int) < 10 := by omega
      have i5 : (0 : Int) ≤ (q1 : Int) := by omega
      have i6 : (q1 : Int) < 10 := by omega
      have i7 : IntKind.i64.wrap (p1 : Int) = (p1 : Int) := Go.IntWalk.i64_in _ (by omega)
      have i8 : IntKind.i64.wrap (q1 : Int) = (q1 : Int) := Go.IntWalk.i64_in _ (by omega)
      have hin : q1 * 10 + p1 < 100 := by omega
      have y0 := blkG_cell hB hin
      have f0 := hB.frozen (q1 * 10 + p1)
      have HST := Lib.hid hst
      have HB3 := Lib.hid ((blkG_set hB hin).alloc (.cells #[.int .i64 (p : Int), .int .i64 (q : Int)] 59))
      clear hst hp hq hp1 hq1 o1 o2 o3 o4 hB
      go_wp2_with fail
      go_region
      go_wp2_with fail
      exact ⟨⟨k + 1, by omega, by go_num, by rw [HST.out]; exact HB3.out.drew, (by (repeat (first | with_reducible exact Below.refl _ _ | with_reducible assumption | with_reducible apply bel_alloc | with_reducible apply bel_drew | with_reducible apply bel_drewN | ((with_reducible refine bel_set ?_ ?_); rotate_left; (simp <;> omega)) | (with_reducible refine bel_trans ?_ (by with_reducible assumption)))))⟩, by simp [intOf]; omega⟩
    · obtain rfl : k = n := by omega
      rw [HM0.out] at hB
      have HB := Lib.hid hB
      have hk1 : ¬ (k : Int) < (k : Int) := by omega
      have hk8 : k ≤ 8 := by omega
      clear hB
      go_wp2_with fail
      go_loopw [31, 6] (fun e31 e6 wq => ∃ y : Nat, y ≤ 10 ∧ e31 = .int .i64 y ∧ ((y = 0 ∧ e6 = .int .i64 0 ∧ Blk wq N 106 (vG M0).toArray) ∨ (0 < y ∧ e6 = .int .i64 1 ∧ Blk wq N 106 (vG fullG).toArray)) ∧ Below w.heap.size w wq) (fun e31 _ _ => 10 - (intOf e31).toNat)
      case atStart => exact ⟨0, by omega, rfl, .inl ⟨rfl, rfl, HB.out⟩, hb⟩
      case round =>
        clear HB hb hNl
        obtain ⟨y, hy, rfl, hcase, hb⟩ := hrel
        by_cases hlt : y < 10
        · have hy0 : (0 : Int) ≤ (y : Int) := by omega
          have hy1 : (y : Int) < 10 := by omega
          have HC := Lib.hid hcase
          clear hcase
          go_wp2_with fail
          go_loopw [34, 6] (fun e34 e6 wq => ∃ x : Nat, x ≤ 10 ∧ e34 = .int .i64 x ∧ ((y = 0 ∧ x = 0 ∧ e6 = .int .i64 0 ∧ Blk wq N 106 (vG M0).toArray) ∨ (0 < y + x ∧ e6 = .int .i64 1 ∧ Blk wq N 106 (vG fullG).toArray)) ∧ Below w.heap.size w wq) (fun e34 _ _ => 10 - (intOf e34).toNat)
          case atStart =>
            refine ⟨0, by omega, rfl, ?_, hb⟩
            rcases HC.out with ⟨h1, h2, h3⟩ | ⟨h1, h2, h3⟩
            · exact .inl ⟨h1, rfl, h2, h3⟩
            · exact .inr ⟨by omega, h2, h3⟩
          case round =>
            clear HC hb
            obtain ⟨x, hx, rfl, hcase, hb⟩ := hrel
            by_cases hlx : x < 10
            · have hx0 : (0 : Int) ≤ (x : Int) := by omega
              have hx1 : (x : Int) < 10 := by omega
              have hin : y * 10 + x < 100 := by omega
              rcases hcase with ⟨h1, h2, rfl, hB⟩ | ⟨h1, rfl, hB⟩
              · have hNl := hB.lt
                have hbit : M0.testBit (y * 10 + x) = false := by rw [h1, h2]; exact HZ0.out
                have z0 := blkG_cell hB hin
                rw [hbit] at z0
                have f0 := hB.frozen (y * 10 + x)
                have hini : flood (M0 ||| 2 ^ (y * 10 + x), [((x : Int), (y : Int))]) 0 = (M0 ||| 2 ^ (y * 10 + x), [((x : Int), (y : Int))]) := rfl
                have hst : (M0 ||| 2 ^ (y * 10 + x), [((x : Int), (y : Int))]) = (M0 ||| 2 ^ 0, [((0 : Int), (0 : Int))]) := by rw [h1, h2]; rfl
                have HST := Lib.hid hst
                have HINI := Lib.hid hini
                have HBS := Lib.hid (blkG_set hB hin)
                clear hB hini hst hbit h1 h2
                go_wp2_with fail
                have hq0 : World.ownsQ ((wr.setCell ⟨N, y * 10 + x, none⟩ (.bool true)).alloc (.cells #[.int .i64 (x : Int), .int .i64 (y : Int)] 59)) w.heap.size 59 2 wr.heap.size 0 1 1 (vC [((x : Int), (y : Int))]) := by
                  obtain ⟨g, hg, hq⟩ := ownQ_of (own_newC (wr.setCell ⟨N, y * 10 + x, none⟩ (.bool true)) 59 (x : Int) (y : Int) (base := w.heap.size) (by have := hb.size; simp; omega)) (by omega)
                  injection hg with hg
                  injection hg with hg
                  simp only [World.size_setCell] at hg
                  subst hg
                  exact hq
                have HQ0 := Lib.hid hq0
                have HB0 := Lib.hid (HBS.out.alloc (.cells #[.int .i64 (x : Int), .int .i64 (y : Int)] 59))
                have hb0 : Below w.heap.size w ((wr.setCell ⟨N, y * 10 + x, none⟩ (.bool true)).alloc (.cells #[.int .i64 (x : Int), .int .i64 (y : Int)] 59)) := bel_alloc (bel_set hb (by simpa using hNw)) _
                clear hq0 z0 f0 HBS
                go_loopw [9] (fun e9 wq => ∃ (i m cp g off l : Nat) (L : List C), e9 = .slice (some ⟨g, off, none⟩) l cp ∧ L.length = l ∧ flood (M0 ||| 2 ^ (y * 10 + x), [((x : Int), (y : Int))]) i = (m, L) ∧ World.ownsQ wq w.heap.size 59 2 g off l cp (vC L) ∧ g ≠ N ∧ Blk wq N 106 (vG m).toArray ∧ Below w.heap.size w wq) (fun e9 wq => 2 * unW wq N + lenQ e9)
                case atStart => exact ⟨0, _, 1, wr.heap.size, 0, 1, _, rfl, rfl, HINI.out, HQ0.out, by omega, HB0.out, hb0⟩
                case round =>
                  clear HINI HQ0 HB0 hb0 hb hNl
                  obtain ⟨i, m, cp, g, off, l, L, rfl, hLl, hfl, hq, hgN, hB, hb⟩ := hrel
                  have hQG := flood_q (st := (M0 ||| 2 ^ (y * 10 + x), [((x : Int), (y : Int))])) (by
                    intro c hc
                    simp only [List.mem_singleton] at hc
                    rw [hc]
                    simp [inG]
                    omega) i
                  rw [hfl] at hQG
                  simp only at hQG
                  have hNl := hB.lt
                  have hmea := flood_le (M0 ||| 2 ^ (y * 10 + x), [((x : Int), (y : Int))]) i
                  rw [hfl] at hmea
                  simp only [List.length_singleton] at hmea
                  have hun := un_le (M0 ||| 2 ^ (y * 10 + x))
                  have hl201 : l ≤ 201 := by omega
                  have HUW : Hid (2 * unW wr N + l = 2 * un m + L.length) := by show _ = _; rw [unW_of hB, hLl]
                  clear hmea hun
                  cases L with
                  | nil =>
                    have hl0 : l = 0 := by simpa using hLl.symm
                    subst hl0
                    have hend := flood_end (k := K) (st := (M0 ||| 2 ^ (y * 10 + x), [((x : Int), (y : Int))])) (by rw [HST.out, HKK.out]) (by rw [hfl] : (flood _ i).2 = [])
                    rw [hfl, HST.out, HKK.out] at hend
                    injection hend with hend _
                    subst hend
                    have HB := Lib.hid hB
                    have hlt0 : ¬ (0 : Int) < 0 := by omega
                    clear hfl hq hB hQG
                    go_wp2_with fail
                    exact ⟨⟨x + 1, by omega, by go_num, .inr ⟨by omega, rfl, HB.out⟩, hb⟩, by simp [intOf]; omega⟩
                  | cons c t =>
                    obtain ⟨l', rfl⟩ : ∃ l', l = l' + 1 := ⟨l - 1, by simp at hLl; omega⟩
                    have htl : t.length = l' := by simpa using hLl
                    have hlt0 : (0 : Int) < ((l' + 1 : Nat) : Int) := by omega
                    have hstep := flood_pop hfl
                    obtain ⟨px, py, hc, hpx, hpy, _, _⟩ := inG_at (hQG c (by simp))
                    subst hc
                    obtain ⟨g', off', hA, hgw, c1, c2⟩ := RdC.at_ (Rd.of_ownQ hq) (k := 0) (by simp)
                    simp only [Option.some.injEq, Addr.mk.injEq, and_true] at hA
                    obtain ⟨rfl, rfl⟩ := hA
                    simp only [List.getElem_cons_zero, Nat.zero_mul, Nat.add_zero] at c1 c2
                    have hqt := ownQ_tail hq
                    have hvd : (vC (((px : Int), (py : Int)) :: t)).drop 2 = vC t := rfl
                    rw [hvd] at hqt
                    have hcp : cp ≤ maxLen := hq.2.2.1
                    have hcp1 : l' + 1 ≤ cp := hq.2.1
                    unfold maxLen at hcp
                    have hQT : QG t := fun d hd => hQG d (List.mem_cons_of_mem _ hd)
                    have HQT := Lib.hid hQT
                    have HQ := Lib.hid hqt
                    have HB := Lib.hid hB
                    have HSTEP := Lib.hid hstep
                    have HTL := Lib.hid htl
                    clear hfl hq hqt hvd hB hQG hstep htl hLl hQT
                    go_upto_region 22 with fail
                    go_cut [9] (fun s wx => ∃ off1 cp1, s = .slice (some ⟨g, off1, none⟩) l' cp1 ∧ World.ownsQ wx w.heap.size 59 2 g off1 l' cp1 (vC t) ∧ Blk wx wr.heap.size 59 #[.int .i64 (px : Int), .int .i64 (py : Int)] ∧ Below wr.heap.size wr wx)
                    case first =>
                      by_cases h1 : cp = 1
                      · obtain rfl : l' = 0 := by omega
                        subst h1
                        go_wp2_with fail
                        go_meet
                        exact ⟨_, _, rfl, ownQ_keep HQ.out (bel_alloc (Below.refl _ _) _), Blk.new _ _ _, (by (repeat (first | with_reducible exact Below.refl _ _ | with_reducible assumption | with_reducible apply bel_alloc | with_reducible apply bel_drew | with_reducible apply bel_drewN | ((with_reducible refine bel_set ?_ ?_); rotate_left; (simp <;> omega)) | (with_reducible refine bel_trans ?_ (by with_reducible assumption)))))⟩
                      · have HN1 : Hid ((if cp = 1 then off else off + 2) = off + 2) := if_neg h1
                        have hc2 : (1 : Int) < (cp : Int) := by omega
                        have hc3 : 1 < cp := by omega
                        have hc4 : ¬ cp = 1 := h1
                        go_wp2_with fail
                        go_meet
                        exact ⟨_, _, rfl, by have h := ownQ_keep HQ.out (bel_alloc (Below.refl _ _) (.cells #[.int .i64 (px : Int), .int .i64 (py : Int)] 59)); rw [HN1.out] at h; exact h, Blk.new _ _ _, (by (repeat (first | with_reducible exact Below.refl _ _ | with_reducible assumption | with_reducible apply bel_alloc | with_reducible apply bel_drew | with_reducible apply bel_drewN | ((with_reducible refine bel_set ?_ ?_); rotate_left; (simp <;> omega)) | (with_reducible refine bel_trans ?_ (by with_reducible assumption)))))⟩
                    case rest =>
                      obtain ⟨off1, cp1, rfl, hQ1, hkc, hbx⟩ := hcut
                      have hgp : g ≠ wr.heap.size := by omega
                      have hb2 := bel_trans hb hbx
                      have hQ0 : QG (m, t).2 := HQT.out
                      have HB2 := Lib.hid (HB.out.below hbx)
                      have HQ2 := Lib.hid hQ1
                      have HKC := Lib.hid hkc
                      have HSN : Hid (∀ d, QG (sidesG (m, t) ((px : Int), (py : Int)) d).2) := fun d => sidesG_q hQ0 _ d
                      have HSU : Hid (∀ d, 2 * un (sidesG (m, t) ((px : Int), (py : Int)) d).1 + (sidesG (m, t) ((px : Int), (py : Int)) d).2.length ≤ 2 * un m + t.length) := fun d => sidesG_un (m, t) _ d
                      have k0 := hkc.cell 0
                      have k1 := hkc.cell 1
                      simp only [List.getElem?_toArray, List.getElem?_cons_zero, List.getElem?_cons_succ] at k0 k1
                      have kl := hkc.lt
                      clear hQ1 hkc hQ0 HB HQ HQT c1 c2 hgw hcp hcp1
                      go_wp2_with fail
                      refine (sides_i (px : Int) (py : Int) _ (by omega)).mono ?_
                      rintro e w5 ⟨D, q5, c5, rfl, hS, hb5⟩
                      obtain rfl : 4 = q5 := by have := own_len hS; rw [vC_length] at this; simp [sidesV] at this; omega
                      have hb05 := bel_trans hb2 hb5
                      have hDb : ∀ b, ob D = some b → b ≠ N ∧ b ≠ g := fun b h => by
                        have h1 := (own_lt hS b h).1
                        have h2 := (ownQ_lt HQ2.out).2
                        have h3 := HB2.out.lt
                        omega
                      have HDB := Lib.hid hDb
                      have HS5 := Lib.hid (Rd.of_own hS)
                      have HQ5 := Lib.hid (ownQ_keep HQ2.out hb5)
                      have HB5 := Lib.hid (HB2.out.below hb5)
                      have h00 : sidesG (m, t) ((px : Int), (py : Int)) 0 = (m, t) := rfl
                      have H00 := Lib.hid h00
                      clear hS hDb HQ2 HB2 HKC k0 k1 kl hb2 hb5 hb hbx h00
                      go_wp2_with fail
                      go_loopw [63, 9] (fun e63 e9 wq => ∃ (d m' cp g off l : Nat) (L : List C), d ≤ 4 ∧ e63 = .int .i64 d ∧ e9 = .slice (some ⟨g, off, none⟩) l cp ∧ L.length = l ∧ sidesG (m, t) ((px : Int), (py : Int)) d = (m', L) ∧ World.ownsQ wq w.heap.size 59 2 g off l cp (vC L) ∧ g ≠ N ∧ Blk wq N 106 (vG m').toArray ∧ Rd wq D (vC (sidesV ((px : Int), (py : Int)))) ∧ (∀ b, ob D = some b → b ≠ N ∧ b ≠ g) ∧ Below w.heap.size w wq) (fun e63 _ _ => 4 - (intOf e63).toNat)
                      case atStart => exact ⟨0, m, cp1, g, off1, l', t, by omega, rfl, rfl, HTL.out, H00.out, HQ5.out, hgN, HB5.out, HS5.out, HDB.out, hb05⟩
                      case round =>
                        clear HQ5 HB5 HS5 HDB hb05 H00 hgN hgp
                        obtain ⟨d, m', cp, g, off, l, L, hd, rfl, rfl, hLl, hsd, hq, hgN, hB, hrd, hdb, hb⟩ := hrel
                        have hqg := HSN.out d
                        have hsu := HSU.out d
                        rw [hsd] at hqg hsu
                        simp only at hqg hsu
                        have hl201 : l ≤ 700 := by have := un_le m; have := HTL.out; omega
                        by_cases hd4 : d < 4
                        · have hjl : d < (sidesV ((px : Int), (py : Int))).length := hd4
                          have hd0 : (0 : Int) ≤ (d : Int) := by omega
                          have hd1 : (d : Int) < 4 := by omega
                          obtain ⟨gD, oD, hDe, hgD, d1, d2⟩ := RdC.at_ hrd hjl
                          have hgd : (sidesV ((px : Int), (py : Int))).getD d (0, 0) = (sidesV ((px : Int), (py : Int)))[d] := by rw [List.getD_eq_getElem?_getD, List.getElem?_eq_getElem hjl]; rfl
                          have hst : sidesG (m, t) ((px : Int), (py : Int)) (d + 1) = sideG (m', L) (sidesV ((px : Int), (py : Int)))[d] := by
                            show sideG (sidesG (m, t) _ d) _ = _
                            rw [hsd, hgd]
                          obtain ⟨x', hx'⟩ : ∃ x', (sidesV ((px : Int), (py : Int)))[d].1 = x' := ⟨_, rfl⟩
                          obtain ⟨y', hy'⟩ : ∃ y', (sidesV ((px : Int), (py : Int)))[d].2 = y' := ⟨_, rfl⟩
                          rw [show (sidesV ((px : Int), (py : Int)))[d] = (x', y') from Prod.ext hx' hy'] at hst
                          rw [hx'] at d1
                          rw [hy'] at d2
                          have hNl := hB.lt
                          have HSAME : Hid ((inG (x', y') && !m'.testBit (gp (x', y'))) = false → sidesG (m, t) ((px : Int), (py : Int)) (d + 1) = (m', L)) := fun h => by rw [hst]; unfold sideG; simp only [h]; simp
                          have HMORE : Hid ((inG (x', y') && !m'.testBit (gp (x', y'))) = true → sidesG (m, t) ((px : Int), (py : Int)) (d + 1) = (m' ||| 2 ^ gp (x', y'), L ++ [(x', y')])) := fun h => by rw [hst]; unfold sideG; simp only [h]; simp
                          have HB := Lib.hid hB
                          have HQ := Lib.hid hq
                          have HRD := Lib.hid hrd
                          have HDB := Lib.hid hdb
                          have HLL := Lib.hid hLl
                          have HDE := Lib.hid hDe
                          subst hDe
                          clear hst hsd hq hB hrd hdb hx' hy' hgd hLl hqg
                          have b9 : ∀ (v lo hi : Int) (b : Bool) (w0 : World), b = (decide (lo ≤ v) && decide (v ≤ hi)) → Calls Try.prog 63 #[.int .i64 v, .int .i64 lo, .int .i64 hi] w0 (Ret w0 (.bool b)) := fun v lo hi b w0 h => between_b v lo hi b w0 h
                          have HBT := Lib.hid b9
                          clear b9
                          cases hg1 : (decide (0 ≤ x') && decide (x' ≤ 9)) with
                          | false =>
                            have HN := Lib.hid (HSAME.out (by unfold inG; simp only [hg1, Bool.false_and]))
                            have HG1 := Lib.hid hg1
                            clear hg1 HSAME HMORE
                            go_wp2_with fail
                            obtain ⟨W1, hW1⟩ : ∃ W1, wr.alloc (.cells #[.int .i64 x', .int .i64 y'] 59) = W1 := ⟨_, rfl⟩
                            have hbW : Below wr.heap.size wr W1 := by rw [← hW1]; exact bel_alloc (Below.refl _ _) _
                            have hDW : Blk W1 wr.heap.size 59 #[.int .i64 x', .int .i64 y'] := by rw [← hW1]; exact Blk.new _ _ _
                            have g0 : W1.cell? ⟨wr.heap.size, 0, none⟩ = some (.int .i64 x') := by simpa using hDW.cell 0
                            have g1 : W1.cell? ⟨wr.heap.size, 1, none⟩ = some (.int .i64 y') := by simpa using hDW.cell 1
                            have gl := hDW.lt
                            rw [hW1]
                            have HDW := Lib.hid hDW
                            clear hW1 hDW
                            (refine wp_region_below (by kernel_rfl) (by kernel_rfl) ?_; (repeat (first | go_big_quiet_skip | (refine quietV (v := ?_) (by rfl) rfl (fun w' hbw => ?_) ?_; rotate_left; ((try dsimp only at hbw); have hbc := (bcell hbw).1; have hbf := (bcell hbw).2; go_simp; first | done | with_reducible rfl | (with_reducible exact callsB (v := .bool false) (HBT.out x' 0 9 false _ HG1.out.symm) hbw)); simp only [List.setIfInBounds_toArray, List.set_cons_zero, List.set_cons_succ]))); refine wpQuiet_nil ?_; intro wq hbq)
                            go_wp2_with fail
                            have hbq2 : Below wr.heap.size wr wq := bel_trans hbW hbq
                            exact ⟨⟨d + 1, m', cp, g, off, l, L, by omega, by go_num, rfl, HLL.out, HN.out, ownQ_keep HQ.out hbq2, hgN, HB.out.below hbq2, HRD.out.below hbq2, HDB.out, bel_trans hb hbq2⟩, by simp [intOf]; omega⟩
                          | true =>
                            have HG1 := Lib.hid hg1
                            cases hg2 : (decide (0 ≤ y') && decide (y' ≤ 9)) with
                            | false =>
                              have HN := Lib.hid (HSAME.out (by unfold inG; simp only [hg1, hg2, Bool.false_and, Bool.and_false]))
                              have HG2 := Lib.hid hg2
                              clear hg1 hg2 HSAME HMORE
                              go_wp2_with fail
                              obtain ⟨W1, hW1⟩ : ∃ W1, wr.alloc (.cells #[.int .i64 x', .int .i64 y'] 59) = W1 := ⟨_, rfl⟩
                              have hbW : Below wr.heap.size wr W1 := by rw [← hW1]; exact bel_alloc (Below.refl _ _) _
                              have hDW : Blk W1 wr.heap.size 59 #[.int .i64 x', .int .i64 y'] := by rw [← hW1]; exact Blk.new _ _ _
                              have g0 : W1.cell? ⟨wr.heap.size, 0, none⟩ = some (.int .i64 x') := by simpa using hDW.cell 0
                              have g1 : W1.cell? ⟨wr.heap.size, 1, none⟩ = some (.int .i64 y') := by simpa using hDW.cell 1
                              have gl := hDW.lt
                              rw [hW1]
                              have HDW := Lib.hid hDW
                              clear hW1 hDW
                              (refine wp_region_below (by kernel_rfl) (by kernel_rfl) ?_; (repeat (first | go_big_quiet_skip | (refine quietV (v := ?_) (by rfl) rfl (fun w' hbw => ?_) ?_; rotate_left; ((try dsimp only at hbw); have hbc := (bcell hbw).1; have hbf := (bcell hbw).2; go_simp; first | done | with_reducible rfl | first | (with_reducible exact callsB (v := .bool true) (HBT.out x' 0 9 true _ HG1.out.symm) hbw) | (with_reducible exact callsB (v := .bool false) (HBT.out y' 0 9 false _ HG2.out.symm) hbw)); simp only [List.setIfInBounds_toArray, List.set_cons_zero, List.set_cons_succ]))); refine wpQuiet_nil ?_; intro wq hbq)
                              go_wp2_with fail
                              have hbq2 : Below wr.heap.size wr wq := bel_trans hbW hbq
                              exact ⟨⟨d + 1, m', cp, g, off, l, L, by omega, by go_num, rfl, HLL.out, HN.out, ownQ_keep HQ.out hbq2, hgN, HB.out.below hbq2, HRD.out.below hbq2, HDB.out, bel_trans hb hbq2⟩, by simp [intOf]; omega⟩
                            | true =>
                              have hig : inG (x', y') = true := by unfold inG; simp only [hg1, hg2, Bool.and_true]
                              obtain ⟨p', q', he, hp', hq', hgp', hpq⟩ := inG_at hig
                              injection he with he1 he2
                              subst he1 he2
                              rw [hig, hgp'] at HSAME HMORE
                              have HG2 := Lib.hid hg2
                              have i1 : (0 : Int) ≤ (p' : Int) := by omega
                              have i2 : (p' : Int) < 10 := by omega
                              have i3 : (0 : Int) ≤ (q' : Int) := by omega
                              have i4 : (q' : Int) < 10 := by omega
                              clear hg1 hg2 hig hgp'
                              cases hbit : m'.testBit (q' * 10 + p') with
                              | true =>
                                have HBIT := Lib.hid hbit
                                have HN := Lib.hid (HSAME.out (by rw [hbit]; rfl))
                                clear hbit HSAME HMORE
                                go_wp2_with fail
                                obtain ⟨W1, hW1⟩ : ∃ W1, wr.alloc (.cells #[.int .i64 (p' : Int), .int .i64 (q' : Int)] 59) = W1 := ⟨_, rfl⟩
                                have hbW : Below wr.heap.size wr W1 := by rw [← hW1]; exact bel_alloc (Below.refl _ _) _
                                have hDW : Blk W1 wr.heap.size 59 #[.int .i64 (p' : Int), .int .i64 (q' : Int)] := by rw [← hW1]; exact Blk.new _ _ _
                                have g0 : W1.cell? ⟨wr.heap.size, 0, none⟩ = some (.int .i64 (p' : Int)) := by simpa using hDW.cell 0
                                have g1 : W1.cell? ⟨wr.heap.size, 1, none⟩ = some (.int .i64 (q' : Int)) := by simpa using hDW.cell 1
                                have gl := hDW.lt
                                have hNW := (HB.out.below hbW).lt
                                have z0 := blkG_cell (HB.out.below hbW) hpq
                                rw [HBIT.out] at z0
                                rw [hW1]
                                have HDW := Lib.hid hDW
                                clear hW1 hDW
                                (refine wp_region_below (by kernel_rfl) (by kernel_rfl) ?_; (repeat (first | go_big_quiet_skip | (refine quietV (v := ?_) (by rfl) rfl (fun w' hbw => ?_) ?_; rotate_left; ((try dsimp only at hbw); have hbc := (bcell hbw).1; have hbf := (bcell hbw).2; go_simp; first | done | with_reducible rfl | first | (with_reducible exact callsB (v := .bool true) (HBT.out (p' : Int) 0 9 true _ HG1.out.symm) hbw) | (with_reducible exact callsB (v := .bool true) (HBT.out (q' : Int) 0 9 true _ HG2.out.symm) hbw)); simp only [List.setIfInBounds_toArray, List.set_cons_zero, List.set_cons_succ]))); refine wpQuiet_nil ?_; intro wq hbq)
                                go_wp2_with fail
                                have hbq2 : Below wr.heap.size wr wq := bel_trans hbW hbq
                                exact ⟨⟨d + 1, m', cp, g, off, l, L, by omega, by go_num, rfl, HLL.out, HN.out, ownQ_keep HQ.out hbq2, hgN, HB.out.below hbq2, HRD.out.below hbq2, HDB.out, bel_trans hb hbq2⟩, by simp [intOf]; omega⟩
                              | false =>
                                have HBIT := Lib.hid hbit
                                have HN := Lib.hid (HMORE.out (by rw [hbit]; rfl))
                                clear hbit HSAME HMORE
                                go_wp2_with fail
                                obtain ⟨W1, hW1⟩ : ∃ W1, wr.alloc (.cells #[.int .i64 (p' : Int), .int .i64 (q' : Int)] 59) = W1 := ⟨_, rfl⟩
                                have hbW : Below wr.heap.size wr W1 := by rw [← hW1]; exact bel_alloc (Below.refl _ _) _
                                have hDW : Blk W1 wr.heap.size 59 #[.int .i64 (p' : Int), .int .i64 (q' : Int)] := by rw [← hW1]; exact Blk.new _ _ _
                                have g0 : W1.cell? ⟨wr.heap.size, 0, none⟩ = some (.int .i64 (p' : Int)) := by simpa using hDW.cell 0
                                have g1 : W1.cell? ⟨wr.heap.size, 1, none⟩ = some (.int .i64 (q' : Int)) := by simpa using hDW.cell 1
                                have gl := hDW.lt
                                have hNW := (HB.out.below hbW).lt
                                have z0 := blkG_cell (HB.out.below hbW) hpq
                                rw [HBIT.out] at z0
                                rw [hW1]
                                have HDW := Lib.hid hDW
                                clear hW1 hDW
                                (refine wp_region_below (by kernel_rfl) (by kernel_rfl) ?_; (repeat (first | go_big_quiet_skip | (refine quietV (v := ?_) (by rfl) rfl (fun w' hbw => ?_) ?_; rotate_left; ((try dsimp only at hbw); have hbc := (bcell hbw).1; have hbf := (bcell hbw).2; go_simp; first | done | with_reducible rfl | first | (with_reducible exact callsB (v := .bool true) (HBT.out (p' : Int) 0 9 true _ HG1.out.symm) hbw) | (with_reducible exact callsB (v := .bool true) (HBT.out (q' : Int) 0 9 true _ HG2.out.symm) hbw)); simp only [List.setIfInBounds_toArray, List.set_cons_zero, List.set_cons_succ]))); refine wpQuiet_nil ?_; intro wq hbq)
                                have hbq2 : Below wr.heap.size wr wq := bel_trans hbW hbq
                                have hBq := HB.out.below hbq2
                                have z1 := blkG_cell hBq hpq
                                have f1 := hBq.frozen (q' * 10 + p')
                                have hDK := HDW.out.below hbq
                                have e0 : wq.cell? ⟨wr.heap.size, 0, none⟩ = some (.int .i64 (p' : Int)) := by simpa using hDK.cell 0
                                have e1 : wq.cell? ⟨wr.heap.size, 1, none⟩ = some (.int .i64 (q' : Int)) := by simpa using hDK.cell 1
                                have hkl := hDK.lt
                                have hNq := hBq.lt
                                have hNn : wr.heap.size ≠ N := by omega
                                have HBS := Lib.hid (blkG_set hBq hpq)
                                have HDK := Lib.hid (hDK.far (p := ⟨N, q' * 10 + p', none⟩) hNn (.bool true))
                                have hgr : wq.grownBy (wq.setCell ⟨N, q' * 10 + p', none⟩ (.bool true)) (some N) := grown_set (World.grownBy.refl _ (some N)) rfl _
                                have HQS := Lib.hid (ownQ_kept (ownQ_keep HQ.out hbq2) hgr (fun e => by injection e with e; exact hgN e))
                                have HRS := Lib.hid ((HRD.out.below hbq2).grown hgr (fun b h e => by injection e with e; exact (HDB.out b h).1 e))
                                have hbs : Below w.heap.size w (wq.setCell ⟨N, q' * 10 + p', none⟩ (.bool true)) := bel_set (bel_trans hb hbq2) (by simpa using hNw)
                                clear hBq hDK hgr d1 d2 z0 g0 g1 gl hNW
                                go_wp2_with fail
                                go_region
                                obtain ⟨W2, hW2⟩ : ∃ W2, (wq.setCell ⟨N, q' * 10 + p', none⟩ (.bool true)).drew = W2 := ⟨_, rfl⟩
                                have q0 : W2.cell? ⟨wr.heap.size, 0, none⟩ = some (.int .i64 (p' : Int)) := by rw [← hW2]; simpa using HDK.out.drew.cell 0
                                have q1 : W2.cell? ⟨wr.heap.size, 1, none⟩ = some (.int .i64 (q' : Int)) := by rw [← hW2]; simpa using HDK.out.drew.cell 1
                                have hB2 : Blk W2 N 106 (vG (m' ||| 2 ^ (q' * 10 + p'))).toArray := by rw [← hW2]; exact HBS.out.drew
                                have hQ2 : World.ownsQ W2 w.heap.size 59 2 g off l cp (vC L) := by rw [← hW2]; exact HQS.out
                                have hR2 : Rd W2 (some ⟨gD, oD, none⟩) (vC (sidesV ((px : Int), (py : Int)))) := by rw [← hW2]; exact HRS.out.drew
                                have hb02 : Below w.heap.size w W2 := by rw [← hW2]; exact bel_drew hbs
                                have HB2 := Lib.hid hB2
                                have HQ2 := Lib.hid hQ2
                                have HR2 := Lib.hid hR2
                                rw [hW2]
                                have hwz := hb02.size
                                have hNW2 := hB2.lt
                                have hgW2 := (ownQ_lt hQ2).2
                                have hgDW : gD < W2.heap.size := by
                                  have := hbq2.size
                                  have h2 : W2.heap.size = wq.heap.size := by rw [← hW2]; simp [World.drew]
                                  omega
                                clear hW2 z1 f1 e0 e1 hkl hNq hNn hbs HBS HDK HQS HRS hB2 hQ2 hR2
                                go_wp2_with (at_builtin; go_must (refine app_QC _ rfl _ _ rfl w.heap.size g off l cp _ rfl (ownQ_keep HQ2.out (bel_alloc (Below.refl _ _) _)) W2.heap.size _ _ [((p' : Int), (q' : Int))] rfl (newC_cells _ _ _ _) rfl (by omega) (by simp; omega) ?_); intro g' off' c' w8 hq8 hg8 hg'; have HQ8 := Lib.hid hq8; have HG8 := Lib.hid hg8; have HGG := Lib.hid hg'; clear hq8 hg8 hg')
                                have hgN' : g' ≠ N := by
                                  rcases HGG.out with e | e
                                  · rw [e]; exact hgN
                                  · simp at e; omega
                                refine ⟨⟨d + 1, _, c', g', off', l + 1, L ++ [((p' : Int), (q' : Int))], by omega, by go_num, rfl, by rw [List.length_append, HLL.out]; rfl, HN.out, HQ8.out, hgN', (HB2.out.alloc _).grown HG8.out (fun e => hgN (by injection e with e; exact e.symm)), (HR2.out.alloc _).grown HG8.out (fun b h e => by injection e with e; exact (HDB.out b h).2 e), fun b h => ?_, bel_grown (row := some g) (bel_alloc hb02 _) HG8.out (fun k e => by injection e with e; have := (ownQ_lt HQ2.out).1; omega)⟩, by simp [intOf]; omega⟩
                                have h0 := HDB.out b h
                                refine ⟨h0.1, ?_⟩
                                rcases HGG.out with e | e
                                · rw [e]; exact h0.2
                                · simp at e
                                  simp only [ob, Option.map_some, Option.some.injEq] at h
                                  omega
                        · obtain rfl : d = 4 := by omega
                          have hd1 : ¬ ((4 : Nat) : Int) < 4 := by omega
                          have hfl2 : flood (M0 ||| 2 ^ (y * 10 + x), [((x : Int), (y : Int))]) (i + 1) = (m', L) := HSTEP.out.trans hsd
                          have HFL2 := Lib.hid hfl2
                          have HUW2 : Hid (2 * unW wr N + l ≤ 2 * un m + t.length) := by show _ ≤ _; rw [unW_of hB, ← hLl]; exact hsu
                          have HB := Lib.hid hB
                          have HQ := Lib.hid hq
                          have HLL := Lib.hid hLl
                          clear hfl2 hsd hq hB hrd hdb hqg hsu hLl
                          go_wp2_with fail
                          refine ⟨⟨i + 1, m', cp, g, off, l, L, rfl, HLL.out, HFL2.out, HQ.out, hgN, HB.out, hb⟩, ?_⟩
                          have h1 := HUW.out
                          have h2 := HUW2.out
                          have h3 := HTL.out
                          simp only [lenQ]
                          simp only [List.length_cons] at h1
                          omega
              · have hNl := hB.lt
                have z0 := blkG_cell hB hin
                rw [full_bit hin] at z0
                have HB := Lib.hid hB
                clear hB
                go_wp2_with fail
                exact ⟨⟨x + 1, by omega, by go_num, .inr ⟨by omega, rfl, HB.out⟩, hb⟩, by simp [intOf]; omega⟩
            · obtain rfl : x = 10 := by omega
              have hx1 : ¬ ((10 : Nat) : Int) < 10 := by omega
              rcases hcase with ⟨_, h2, _⟩ | ⟨_, rfl, hB⟩
              · exact absurd h2 (by omega)
              · have HB := Lib.hid hB
                clear hB
                go_wp2_with fail
                exact ⟨⟨y + 1, by omega, by go_num, .inr ⟨by omega, rfl, HB.out⟩, hb⟩, by simp [intOf]; omega⟩
        · obtain rfl : y = 10 := by omega
          have hy1 : ¬ ((10 : Nat) : Int) < 10 := by omega
          rcases hcase with ⟨h1, _⟩ | ⟨_, rfl, _⟩
          · exact absurd h1 (by omega)
          · go_wp2_with fail
            go_ret
            exact ⟨rfl, hb⟩
end Go.Proofs.Ytglilkneipfheaa

/- The holes of a shape that has none: the reference. -/
namespace Go.Proofs.Ytglilkneipfheaa
open Go.RowKit
set_option linter.unusedVariables false
attribute [local go_sem ↓] Go.wp_at_zero Go.wp_at_succ

theorem corn_at {xs : List C} (hs : isShape xs = true) : (cornS xs).length = xs.length ∧ ∀ c ∈ cornS xs, (0 ≤ c.1 ∧ c.1 ≤ 7) ∧ (0 ≤ c.2 ∧ c.2 ≤ 7) := by
  have h0 := (shape_len hs).1
  refine ⟨mv_len _ _ _, fun c hc => ?_⟩
  unfold cornS at hc
  rw [mv_mem] at hc
  have h1 := shape_onB hs _ hc
  have h2 := minC_le (·.1) hc
  have h3 := minC_le (·.2) hc
  obtain ⟨d, hd, e⟩ := minC_at (·.1) (s := xs) (by omega)
  obtain ⟨f, hf, e2⟩ := minC_at (·.2) (s := xs) (by omega)
  have h4 := shape_onB hs d hd
  have h5 := shape_onB hs f hf
  simp only [onB, Bool.and_eq_true, decide_eq_true_eq] at h1 h4 h5
  simp only at h2 h3
  omega
theorem ext_le {cs : List C} (h : ∀ c ∈ cs, (0 ≤ c.1 ∧ c.1 ≤ 7) ∧ (0 ≤ c.2 ∧ c.2 ≤ 7)) : ∀ k, k ≤ cs.length → (0 ≤ extW cs k ∧ extW cs k ≤ 8) ∧ (0 ≤ extH cs k ∧ extH cs k ≤ 8)
  | 0, _ => by simp [extW, extH]
  | k + 1, hk => by
    have ih := ext_le h k (by omega)
    have hx := h (cs.getD k (0, 0)) (by rw [List.getD_eq_getElem?_getD, List.getElem?_eq_getElem (by omega)]; exact List.getElem_mem _)
    unfold extW extH
    refine ⟨?_, ?_⟩ <;> split <;> omega
theorem CornerShape_s (A : Option Addr) (n c : Nat) (xs : List C) (w : World) (hr : Rd w A (vC xs)) (hl : xs.length = n) (hs : isShape xs = true) :
    Calls Try.prog 125 #[.slice A n c] w (RetS w 59 2 (vC (cornS xs))) := by
  have hn8 := (shape_len hs).2
  have hsm := shape_small hs
  have HL := Lib.hid hl
  have HR := Lib.hid hr
  have HS := Lib.hid hs
  have HSM := Lib.hid hsm
  rw [hl] at hn8
  have hnn : n ≤ 1099511627776 := by omega
  clear hl hr hs hsm
  go_enter Try.func125, Try.ntmps125
  go_wp2_with fail
  refine (IsShape_s A n c xs _ HR.out HL.out hnn).mono ?_
  rw [HS.out]
  rintro e w1 ⟨rfl, hb1⟩
  go_wp2_with fail
  refine (l2Corner_s A n c xs _ (HR.out.below hb1) HL.out (by omega) HSM.out).mono ?_
  rintro e w2 ⟨D, m, cd, rfl, hO, hb2⟩
  have HO := Lib.hid hO
  have hbz := hb1.size
  clear hO
  go_wp2_with fail
  go_ret
  exact ⟨D, m, cd, rfl, own_base HO.out hbz, bel_trans hb1 hb2⟩
set_option maxHeartbeats 800000 in
theorem SizeOf_s (A : Option Addr) (n c : Nat) (xs : List C) (w : World) (hr : Rd w A (vC xs)) (hl : xs.length = n) (hs : isShape xs = true) :
    Calls Try.prog 124 #[.slice A n c] w (Ret w (.tuple #[.int .i64 (extW (cornS xs) n), .int .i64 (extH (cornS xs) n)])) := by
  obtain ⟨h1, h2⟩ := corn_at hs
  have h3 := ext_le h2
  obtain ⟨cs, hcs⟩ : ∃ cs, cornS xs = cs := ⟨_, rfl⟩
  rw [hcs] at h1 h2 h3
  rw [hl] at h1
  have hn8 := (shape_len hs).2
  rw [hl] at hn8
  have HL := Lib.hid hl
  have HR := Lib.hid hr
  have HS := Lib.hid hs
  have HCS := Lib.hid hcs
  have HCL := Lib.hid h1
  have HC7 := Lib.hid h2
  have HE := Lib.hid h3
  clear hl hr hs hcs h1 h2 h3
  go_enter Try.func124, Try.ntmps124
  go_wp2_with fail
  refine (CornerShape_s A n c xs _ HR.out HL.out HS.out).mono ?_
  rw [HCS.out]
  rintro e w1 ⟨D, m, cd, rfl, hO, hb1⟩
  obtain rfl : n = m := by have := own_len hO; rw [vC_length] at this; have := HCL.out; omega
  have HRD := Lib.hid (Rd.of_own hO)
  clear hO
  go_wp2_with fail
  go_loopw [7, 5, 6] (fun e7 e5 e6 wr => ∃ (k : Nat) (a b : Int), k ≤ n ∧ e7 = .int .i64 k ∧ e5 = .int .i64 a ∧ e6 = .int .i64 b ∧ extW cs k = a ∧ extH cs k = b ∧ Below w1.heap.size w1 wr) (fun e7 _ _ _ => n - (intOf e7).toNat)
  case atStart => exact ⟨0, 0, 0, Nat.zero_le _, rfl, rfl, rfl, rfl, rfl, Below.refl _ _⟩
  case round =>
    obtain ⟨k, a, b, hk, rfl, rfl, rfl, ha, hbb, hb⟩ := hrel
    have HA := Lib.hid ha
    have HB := Lib.hid hbb
    clear ha hbb
    by_cases hlt : k < n
    · have hkl : k < cs.length := by rw [HCL.out]; exact hlt
      have hk0 : (0 : Int) ≤ (k : Int) := by omega
      have hk1 : (k : Int) < (n : Int) := by omega
      obtain ⟨g, off, hA, hg, d1, d2⟩ := RdC.at_ (HRD.out.below hb) hkl
      subst hA
      have h7 := HC7.out _ (List.getElem_mem hkl)
      have hgd : cs.getD k (0, 0) = cs[k] := by rw [List.getD_eq_getElem?_getD, List.getElem?_eq_getElem hkl]; rfl
      obtain ⟨p, hp⟩ : ∃ p, cs[k].1 = p := ⟨_, rfl⟩
      obtain ⟨q, hq⟩ : ∃ q, cs[k].2 = q := ⟨_, rfl⟩
      have S1 : Hid (extW cs (k + 1) = if a < p + 1 then p + 1 else a) := by show extW cs (k + 1) = _; unfold extW; rw [hgd, hp, HA.out]
      have S2 : Hid (extH cs (k + 1) = if b < q + 1 then q + 1 else b) := by show extH cs (k + 1) = _; unfold extH; rw [hgd, hq, HB.out]
      rw [hp] at d1 h7
      rw [hq] at d2 h7
      have e1 : IntKind.i64.wrap (p + 1) = p + 1 := Go.IntWalk.i64_in _ (by omega)
      have e2 : IntKind.i64.wrap (q + 1) = q + 1 := Go.IntWalk.i64_in _ (by omega)
      clear hp hq hgd h7
      by_cases h1 : a < p + 1
      · by_cases h2 : b < q + 1
        · have T1 : Hid (extW cs (k + 1) = p + 1) := by show _ = _; rw [S1.out]; exact if_pos h1
          have T2 : Hid (extH cs (k + 1) = q + 1) := by show _ = _; rw [S2.out]; exact if_pos h2
          go_wp2_with fail
          exact ⟨⟨k + 1, p + 1, q + 1, by omega, by go_num, by first | rfl | (simp <;> omega), by first | rfl | (simp <;> omega), T1.out, T2.out, hb⟩, by simp [intOf]; omega⟩
        · have T1 : Hid (extW cs (k + 1) = p + 1) := by show _ = _; rw [S1.out]; exact if_pos h1
          have T2 : Hid (extH cs (k + 1) = b) := by show _ = _; rw [S2.out]; exact if_neg h2
          go_wp2_with fail
          exact ⟨⟨k + 1, p + 1, b, by omega, by go_num, by first | rfl | (simp <;> omega), by first | rfl | (simp <;> omega), T1.out, T2.out, hb⟩, by simp [intOf]; omega⟩
      · by_cases h2 : b < q + 1
        · have T1 : Hid (extW cs (k + 1) = a) := by show _ = _; rw [S1.out]; exact if_neg h1
          have T2 : Hid (extH cs (k + 1) = q + 1) := by show _ = _; rw [S2.out]; exact if_pos h2
          go_wp2_with fail
          exact ⟨⟨k + 1, a, q + 1, by omega, by go_num, by first | rfl | (simp <;> omega), by first | rfl | (simp <;> omega), T1.out, T2.out, hb⟩, by simp [intOf]; omega⟩
        · have T1 : Hid (extW cs (k + 1) = a) := by show _ = _; rw [S1.out]; exact if_neg h1
          have T2 : Hid (extH cs (k + 1) = b) := by show _ = _; rw [S2.out]; exact if_neg h2
          go_wp2_with fail
          exact ⟨⟨k + 1, a, b, by omega, by go_num, by first | rfl | (simp <;> omega), by first | rfl | (simp <;> omega), T1.out, T2.out, hb⟩, by simp [intOf]; omega⟩
    · obtain rfl : k = n := by omega
      have hk1 : ¬ (k : Int) < (k : Int) := by omega
      go_wp2_with fail
      go_ret2
      exact ⟨by rw [HCS.out, HA.out, HB.out]; rfl, bel_trans hb1 hb⟩
theorem own_litO (w : World) {base : Nat} (hb : base ≤ w.heap.size) (x y : Int) : (w.alloc (.cells #[.int .i64 x, .int .i64 y] 59)).ownsRow base 59 2 (.slice (some ⟨w.heap.size, 0, none⟩) 1 1) 1 (vC [(x, y)]) := own_newC w _ x y hb
set_option maxRecDepth 100000 in
set_option maxHeartbeats 6400000 in
theorem l5Outside_s (A : Option Addr) (n c T : Nat) (R xs : List C) (w : World) (hr : Rd w A (vC xs)) (hl : xs.length = n) (hs : isShape xs = true) (hf : FullS xs T R) (hT : T ≤ 1000) :
    Calls Try.prog 126 #[.slice A n c] w (RetS w 59 2 (vC R)) := by
  obtain ⟨h1, h2⟩ := corn_at hs
  have h3 := ext_le h2 n (by omega)
  have hre := hf.reach
  have hrl := hf.len
  rw [hl] at hre
  obtain ⟨cs, hcs⟩ : ∃ cs, cornS xs = cs := ⟨_, rfl⟩
  rw [hcs] at h1 h2 h3 hre
  rw [hl] at h1
  obtain ⟨W, hW⟩ : ∃ W, extW cs n = W := ⟨_, rfl⟩
  obtain ⟨H, hH⟩ : ∃ H, extH cs n = H := ⟨_, rfl⟩
  rw [hW, hH] at h3 hre
  have hn8 := (shape_len hs).2
  rw [hl] at hn8
  have HEND : Hid (∀ i, (outF cs W H (4 * i)).length ≤ i → outF cs W H (4 * i) = R) := fun i h => by
    have := outF_end cs W H h (by rw [hre]; exact hrl)
    rw [this, hre]
  have HMORE : Hid (∀ i, i < (outF cs W H (4 * i)).length → i < T) := fun i h => outF_more cs W H h (by rw [hre]; exact hrl)
  have HL := Lib.hid hl
  have HR := Lib.hid hr
  have HS := Lib.hid hs
  have HCS := Lib.hid hcs
  have HCL := Lib.hid h1
  have HC7 := Lib.hid h2
  have HW := Lib.hid hW
  have HH := Lib.hid hH
  obtain ⟨⟨hW0, hW8⟩, hH0, hH8⟩ := h3
  clear hl hr hs hcs h1 h2 hf hre hrl hW hH
  go_enter Try.func126, Try.ntmps126
  go_wp2_with fail
  refine (SizeOf_s A n c xs _ HR.out HL.out HS.out).mono ?_
  rw [HCS.out, HW.out, HH.out]
  rintro e w1 ⟨rfl, hb1⟩
  go_wp2_with fail
  refine (CornerShape_s A n c xs _ (HR.out.below hb1) HL.out HS.out).mono ?_
  rw [HCS.out]
  rintro e w2 ⟨D, m, cd, rfl, hO, hb2⟩
  obtain rfl : n = m := by have := own_len hO; rw [vC_length] at this; have := HCL.out; omega
  have HRD := Lib.hid (Rd.of_own hO)
  have hb02 := bel_trans hb1 hb2
  clear hO
  have HI := Lib.hid (own_litO w2 (Nat.le_refl _) (-1) (-1))
  have hbw : Below w.heap.size w (w2.alloc (.cells #[.int .i64 (-1), .int .i64 (-1)] 59)) := bel_alloc hb02 _
  have hbw2 : Below w2.heap.size w2 (w2.alloc (.cells #[.int .i64 (-1), .int .i64 (-1)] 59)) := bel_alloc (Below.refl _ _) _
  clear hb1 hb2
  go_wp2_with fail
  go_loopw [7, 6] (fun e7 e6 wr => ∃ (i q cq : Nat) (E : Option Addr), i ≤ T ∧ e7 = .int .i64 i ∧ e6 = .slice E q cq ∧ wr.ownsRow w2.heap.size 59 2 (.slice E q cq) q (vC (outF cs W H (4 * i))) ∧ (∀ x ∈ outF cs W H (4 * i), (-1 ≤ x.1 ∧ x.1 ≤ 8) ∧ (-1 ≤ x.2 ∧ x.2 ≤ 8)) ∧ Below w.heap.size w wr ∧ Below w2.heap.size w2 wr) (fun e7 _ _ => T - (intOf e7).toNat)
  case atStart => exact ⟨0, 1, 1, _, Nat.zero_le _, rfl, rfl, HI.out, by intro x hx; simp [outF] at hx; subst hx; simp, hbw, hbw2⟩
  case round =>
    clear HI hbw hbw2
    obtain ⟨i, q, cq, E, hi, rfl, rfl, hO, hsm, hb, hb2⟩ := hrel
    have hql : (outF cs W H (4 * i)).length = q := by have := own_len hO; rw [vC_length] at this; omega
    by_cases hlt : i < q
    · have hiT := HMORE.out i (by omega)
      have hi0 : (0 : Int) ≤ (i : Int) := by omega
      have hi1 : (i : Int) < (q : Int) := by omega
      have HPRE : Hid (∀ d, ∃ l, outF cs W H (4 * i + d) = outF cs W H (4 * i) ++ l) := outF_pre cs W H (4 * i)
      have hiL : i < (outF cs W H (4 * i)).length := by omega
      obtain ⟨u, hu⟩ : ∃ u, (outF cs W H (4 * i)).getD i (0, 0) = u := ⟨_, rfl⟩
      have hum : u ∈ outF cs W H (4 * i) := by rw [← hu, List.getD_eq_getElem?_getD, List.getElem?_eq_getElem hiL]; exact List.getElem_mem _
      have hu8 := hsm u hum
      have HU : Hid (∀ d, (outF cs W H (4 * i + d)).getD i (0, 0) = u) := fun d => by
        obtain ⟨l, hl⟩ := outF_pre cs W H (4 * i) d
        rw [hl, List.getD_eq_getElem?_getD, List.getElem?_append_left hiL, ← List.getD_eq_getElem?_getD, hu]
      have HIL : Hid (∀ d, i < (outF cs W H (4 * i + d)).length) := fun d => by
        obtain ⟨l, hl⟩ := outF_pre cs W H (4 * i) d
        rw [hl, List.length_append]; omega
      obtain ⟨ux, uy⟩ := u
      simp only at hu8
      obtain ⟨⟨u1, u2⟩, u3, u4⟩ := hu8
      have HSM := Lib.hid hsm
      have HO := Lib.hid hO
      clear hO hsm hu hum hql
      go_wp2_with fail
      go_loopw [8, 6] (fun e8 e6 wr => ∃ (d q cq : Nat) (E : Option Addr), d ≤ 4 ∧ e8 = .int .i64 d ∧ e6 = .slice E q cq ∧ wr.ownsRow w2.heap.size 59 2 (.slice E q cq) q (vC (outF cs W H (4 * i + d))) ∧ (∀ x ∈ outF cs W H (4 * i + d), (-1 ≤ x.1 ∧ x.1 ≤ 8) ∧ (-1 ≤ x.2 ∧ x.2 ≤ 8)) ∧ Below w.heap.size w wr ∧ Below w2.heap.size w2 wr) (fun e8 _ _ => 4 - (intOf e8).toNat)
      case atStart => exact ⟨0, q, cq, E, by omega, rfl, rfl, HO.out, HSM.out, hb, hb2⟩
      case round =>
        clear HO HSM hb hb2 hi1 hlt
        obtain ⟨d, q, cq, E, hd, rfl, rfl, hO, hsm, hb, hb2⟩ := hrel
        by_cases hd4 : d < 4
        · have hd0 : (0 : Int) ≤ (d : Int) := by omega
          have hd1 : (d : Int) < 4 := by omega
          have hst := outF_at cs W H i d hd4
          have hol := outF_len cs W H (4 * i + d)
          have hui := HU.out d
          have hil := HIL.out d
          have hql : (outF cs W H (4 * i + d)).length = q := by have := own_len hO; rw [vC_length] at this; omega
          obtain ⟨L, hL⟩ : ∃ L, outF cs W H (4 * i + d) = L := ⟨_, rfl⟩
          rw [hL] at hst hui hil hql hO hsm hol
          unfold outSt at hst
          rw [if_pos hil, hui] at hst
          obtain ⟨da, db, e1, e2, hd1', hd2, hab⟩ : ∃ da db : Int, ((1 : Int) - (d : Int)).tmod 2 = da ∧ ((2 : Int) - (d : Int)).tmod 2 = db ∧ (-1 ≤ da ∧ da ≤ 1) ∧ (-1 ≤ db ∧ db ≤ 1) ∧ dirS (ux, uy) d = (ux + da, uy + db) := by
            rcases (by omega : d = 0 ∨ d = 1 ∨ d = 2 ∨ d = 3) with rfl | rfl | rfl | rfl
            · exact ⟨1, 0, by decide, by decide, by omega, by omega, by simp [dirS, sidesS]⟩
            · exact ⟨0, 1, by decide, by decide, by omega, by omega, by simp [dirS, sidesS]⟩
            · exact ⟨-1, 0, by decide, by decide, by omega, by omega, by simp [dirS, sidesS]; omega⟩
            · exact ⟨0, -1, by decide, by decide, by omega, by omega, by simp [dirS, sidesS]; omega⟩
          obtain ⟨x, hx⟩ : ∃ x, ux + da = x := ⟨_, rfl⟩
          obtain ⟨y, hy⟩ : ∃ y, uy + db = y := ⟨_, rfl⟩
          rw [hab, hx, hy] at hst
          have v1 : IntKind.i64.wrap ((1 : Int) - (d : Int)) = (1 : Int) - (d : Int) := Go.IntWalk.i64_in _ (by omega)
          have v2 : IntKind.i64.wrap ((2 : Int) - (d : Int)) = (2 : Int) - (d : Int) := Go.IntWalk.i64_in _ (by omega)
          have v3 : IntKind.i64.wrap x = x := Go.IntWalk.i64_in _ (by omega)
          have v4 : IntKind.i64.wrap y = y := Go.IntWalk.i64_in _ (by omega)
          have v5 : IntKind.i64.wrap da = da := Go.IntWalk.i64_in _ (by omega)
          have v6 : IntKind.i64.wrap db = db := Go.IntWalk.i64_in _ (by omega)
          obtain ⟨g, off, hA, hg, d1, d2⟩ := RdC.at_ (Rd.of_own hO) hil
          subst hA
          have hLi : L[i] = (ux, uy) := by rw [List.getD_eq_getElem?_getD, List.getElem?_eq_getElem hil] at hui; exact hui
          rw [hLi] at d1 d2
          simp only at d1 d2
          have hi1 : (i : Int) < (q : Int) := by omega
          have hq4 : q ≤ 4004 := by omega
          have HQL := Lib.hid hql
          have HO := Lib.hid hO
          have HSM := Lib.hid hsm
          have HCX := Lib.hid (HRD.out.below hb2)
          have SAME : Hid ((outOk cs W H (x, y) && !hasC L x y) = false → outF cs W H (4 * i + (d + 1)) = L) := fun h => by rw [hst]; simp only [h]; simp
          have MORE : Hid ((outOk cs W H (x, y) && !hasC L x y) = true → outF cs W H (4 * i + (d + 1)) = L ++ [(x, y)]) := fun h => by rw [hst]; simp only [h]; simp
          have hda : IntKind.i64.wrap (ux + da) = x := by rw [hx]; exact v3
          clear hst hO hsm hql hil hui hL hLi hab hd1' hd2 hol
          cases ha : (decide (-1 ≤ x) && decide (x ≤ W)) with
          | false =>
            have HN := Lib.hid (SAME.out (by unfold outOk; simp only [ha, Bool.false_and]))
            have HA := Lib.hid ha
            clear ha SAME MORE
            go_wp2_with fail
            refine (l1In_b x (-1) W false _ (by rw [HA.out])).mono ?_
            rintro e w4 ⟨rfl, hb4⟩
            have HO4 := Lib.hid (own_keep HO.out hb4)
            go_wp2_with fail
            exact ⟨⟨d + 1, q, cq, _, by omega, by go_num, rfl, by rw [HN.out]; exact HO4.out, by rw [HN.out]; exact HSM.out, bel_trans hb hb4, bel_trans hb2 hb4⟩, by simp [intOf]; omega⟩
          | true =>
            have HA := Lib.hid ha
            cases hbb : (decide (-1 ≤ y) && decide (y ≤ H)) with
            | false =>
              have HN := Lib.hid (SAME.out (by unfold outOk; simp only [ha, hbb, Bool.false_and, Bool.and_false]))
              have HBB := Lib.hid hbb
              clear ha hbb SAME MORE
              go_wp2_with fail
              refine (l1In_b x (-1) W true _ (by rw [HA.out])).mono ?_
              rintro e w4 ⟨rfl, hb4⟩
              go_wp2_with fail
              refine (l1In_b y (-1) H false _ (by rw [HBB.out])).mono ?_
              rintro e w5 ⟨rfl, hb5⟩
              have hb45 := bel_trans hb4 hb5
              have HO4 := Lib.hid (own_keep HO.out hb45)
              go_wp2_with fail
              exact ⟨⟨d + 1, q, cq, _, by omega, by go_num, rfl, by rw [HN.out]; exact HO4.out, by rw [HN.out]; exact HSM.out, bel_trans hb hb45, bel_trans hb2 hb45⟩, by simp [intOf]; omega⟩
            | true =>
              have HBB := Lib.hid hbb
              cases hh : hasC cs x y with
              | true =>
                have HN := Lib.hid (SAME.out (by unfold outOk; simp only [hh, Bool.not_true, Bool.and_false, Bool.false_and]))
                have HHC := Lib.hid hh
                clear ha hbb hh SAME MORE
                go_wp2_with fail
                refine (l1In_b x (-1) W true _ (by rw [HA.out])).mono ?_
                rintro e w4 ⟨rfl, hb4⟩
                go_wp2_with fail
                refine (l1In_b y (-1) H true _ (by rw [HBB.out])).mono ?_
                rintro e w5 ⟨rfl, hb5⟩
                go_wp2_with fail
                refine (HasCell_s D n cd cs x y _ ((HCX.out.below hb4).below hb5) HCL.out (by omega)).mono ?_
                rw [HHC.out]
                rintro e w6 ⟨rfl, hb6⟩
                have hb45 := bel_trans (bel_trans hb4 hb5) hb6
                have HO4 := Lib.hid (own_keep HO.out hb45)
                go_wp2_with fail
                exact ⟨⟨d + 1, q, cq, _, by omega, by go_num, rfl, by rw [HN.out]; exact HO4.out, by rw [HN.out]; exact HSM.out, bel_trans hb hb45, bel_trans hb2 hb45⟩, by simp [intOf]; omega⟩
              | false =>
                have HHC := Lib.hid hh
                cases hm : hasC L x y with
                | true =>
                  have HN := Lib.hid (SAME.out (by simp only [hm, Bool.not_true, Bool.and_false]))
                  have HHM := Lib.hid hm
                  clear ha hbb hh hm SAME MORE
                  go_wp2_with fail
                  refine (l1In_b x (-1) W true _ (by rw [HA.out])).mono ?_
                  rintro e w4 ⟨rfl, hb4⟩
                  go_wp2_with fail
                  refine (l1In_b y (-1) H true _ (by rw [HBB.out])).mono ?_
                  rintro e w5 ⟨rfl, hb5⟩
                  go_wp2_with fail
                  refine (HasCell_s D n cd cs x y _ ((HCX.out.below hb4).below hb5) HCL.out (by omega)).mono ?_
                  rw [HHC.out]
                  rintro e w6 ⟨rfl, hb6⟩
                  have hb45 := bel_trans (bel_trans hb4 hb5) hb6
                  have HO4 := Lib.hid (own_keep HO.out hb45)
                  go_wp2_with fail
                  refine (HasCell_s _ q cq L x y _ (Rd.of_own HO4.out) HQL.out (by omega)).mono ?_
                  rw [HHM.out]
                  rintro e w7 ⟨rfl, hb7⟩
                  have hb47 := bel_trans hb45 hb7
                  have HO5 := Lib.hid (own_keep HO4.out hb7)
                  go_wp2_with fail
                  exact ⟨⟨d + 1, q, cq, _, by omega, by go_num, rfl, by rw [HN.out]; exact HO5.out, by rw [HN.out]; exact HSM.out, bel_trans hb hb47, bel_trans hb2 hb47⟩, by simp [intOf]; omega⟩
                | false =>
                  have HN := Lib.hid (MORE.out (by unfold outOk; simp only [ha, hbb, hh, hm, Bool.not_false, Bool.and_true]))
                  have HHM := Lib.hid hm
                  have hxy : (-1 ≤ x ∧ x ≤ 8) ∧ (-1 ≤ y ∧ y ≤ 8) := by
                    simp only [Bool.and_eq_true, decide_eq_true_eq] at ha hbb
                    omega
                  have HXY := Lib.hid hxy
                  clear ha hbb hh hm SAME MORE hxy
                  go_wp2_with fail
                  refine (l1In_b x (-1) W true _ (by rw [HA.out])).mono ?_
                  rintro e w4 ⟨rfl, hb4⟩
                  go_wp2_with fail
                  refine (l1In_b y (-1) H true _ (by rw [HBB.out])).mono ?_
                  rintro e w5 ⟨rfl, hb5⟩
                  go_wp2_with fail
                  refine (HasCell_s D n cd cs x y _ ((HCX.out.below hb4).below hb5) HCL.out (by omega)).mono ?_
                  rw [HHC.out]
                  rintro e w6 ⟨rfl, hb6⟩
                  have hb45 := bel_trans (bel_trans hb4 hb5) hb6
                  have HO4 := Lib.hid (own_keep HO.out hb45)
                  go_wp2_with fail
                  refine (HasCell_s _ q cq L x y _ (Rd.of_own HO4.out) HQL.out (by omega)).mono ?_
                  rw [HHM.out]
                  rintro e w7 ⟨rfl, hb7⟩
                  have hb47 := bel_trans hb45 hb7
                  have HO5 := Lib.hid (own_keep HO4.out hb7)
                  have hbb7 := bel_trans hb hb47
                  have hbb8 := bel_trans hb2 hb47
                  have hbz := hbb8.size
                  clear d1 d2
                  go_wp2_with (at_builtin; go_must (refine app_C _ rfl _ _ rfl w2.heap.size _ q cq L rfl (HO5.out.alloc _) _ _ _ [(x, y)] rfl (rd_newC _ _ _ _) rfl (by omega) (by simp; omega) ?_); intro E2 cp2 w8 ho8 hg8 hat8; have HO8 := Lib.hid ho8; have HG8 := Lib.hid hg8; clear ho8 hg8 hat8)
                  have hb28 : Below w2.heap.size w2 w8 := bel_app (bel_alloc hbb8 _) HG8.out (fun g h => (own_lt HO5.out g h).1)
                  have hb78 := bel_trans hb02 hb28
                  exact ⟨⟨d + 1, q + 1, cp2, _, by omega, by go_num, rfl, by rw [HN.out]; exact HO8.out, by rw [HN.out]; intro z hz; rcases List.mem_append.1 hz with h | h; exact HSM.out z h; simp only [List.mem_singleton] at h; subst h; exact HXY.out, hb78, hb28⟩, by simp [intOf]; omega⟩
        · obtain rfl : d = 4 := by omega
          have HO := Lib.hid hO
          have HSM := Lib.hid hsm
          have hd1 : ¬ ((4 : Nat) : Int) < 4 := by omega
          clear hO hsm
          go_wp2_with fail
          exact ⟨⟨i + 1, q, cq, E, by omega, by go_num, rfl, HO.out, HSM.out, hb, hb2⟩, by simp [intOf]; omega⟩
    · have HN := Lib.hid (HEND.out i (by omega))
      rw [HN.out] at hO
      have HO := Lib.hid hO
      have hi1 : ¬ (i : Int) < (q : Int) := by omega
      clear hO hql hsm
      go_wp2_with fail
      go_ret
      exact ⟨E, q, cq, rfl, own_base HO.out hb02.size, hb⟩
set_option maxRecDepth 100000 in
set_option maxHeartbeats 3200000 in
theorem HolesOf_s (A : Option Addr) (n c : Nat) (xs : List C) (w : World) (hr : Rd w A (vC xs)) (hl : xs.length = n) (hs : isShape xs = true) (hf : ∃ T R, FullS xs T R ∧ T ≤ 1000) :
    Calls Try.prog 100 #[.slice A n c] w (Ret w (.int .i64 0)) := by
  obtain ⟨T, R, hf, hT⟩ := hf
  obtain ⟨h1, h2⟩ := corn_at hs
  have h3 := ext_le h2 n (by omega)
  have hall := hf.all
  have hrl := hf.len
  rw [hl] at hall
  obtain ⟨cs, hcs⟩ : ∃ cs, cornS xs = cs := ⟨_, rfl⟩
  rw [hcs] at h1 h2 h3 hall
  rw [hl] at h1
  obtain ⟨W, hW⟩ : ∃ W, extW cs n = W := ⟨_, rfl⟩
  obtain ⟨H, hH⟩ : ∃ H, extH cs n = H := ⟨_, rfl⟩
  rw [hW, hH] at h3 hall
  have hn8 := (shape_len hs).2
  rw [hl] at hn8
  have hnn : n ≤ 1099511627776 := by omega
  obtain ⟨⟨hW0, hW8⟩, hH0, hH8⟩ := h3
  obtain ⟨W, rfl⟩ := Int.eq_ofNat_of_zero_le hW0
  obtain ⟨H, rfl⟩ := Int.eq_ofNat_of_zero_le hH0
  have HL := Lib.hid hl
  have HR := Lib.hid hr
  have HS := Lib.hid hs
  have HF := Lib.hid hf
  have HCS := Lib.hid hcs
  have HCL := Lib.hid h1
  have HW := Lib.hid hW
  have HH := Lib.hid hH
  have HALL := Lib.hid hall
  clear hl hr hs hcs h1 h2 hf hW hH hall
  go_enter Try.func100, Try.ntmps100
  go_wp2_with fail
  refine (IsShape_s A n c xs _ HR.out HL.out hnn).mono ?_
  rw [HS.out]
  rintro e w1 ⟨rfl, hb1⟩
  go_wp2_with fail
  refine (SizeOf_s A n c xs _ (HR.out.below hb1) HL.out HS.out).mono ?_
  rw [HCS.out, HW.out, HH.out]
  rintro e w2 ⟨rfl, hb2⟩
  have hb02 := bel_trans hb1 hb2
  go_wp2_with fail
  refine (CornerShape_s A n c xs _ (HR.out.below hb02) HL.out HS.out).mono ?_
  rw [HCS.out]
  rintro e w3 ⟨D, m, cd, rfl, hO, hb3⟩
  obtain rfl : n = m := by have := own_len hO; rw [vC_length] at this; have := HCL.out; omega
  have hb03 := bel_trans hb02 hb3
  have HRD := Lib.hid (Rd.of_own hO)
  clear hO
  go_wp2_with fail
  refine (l5Outside_s A n c T R xs _ (HR.out.below hb03) HL.out HS.out HF.out hT).mono ?_
  rintro e w4 ⟨E, q, cq, rfl, hO, hb4⟩
  have hql : R.length = q := by have := own_len hO; rw [vC_length] at this; omega
  have HQL := Lib.hid hql
  have HRE := Lib.hid (Rd.of_own hO)
  have HRD4 := Lib.hid (HRD.out.below hb4)
  have hb04 := bel_trans hb03 hb4
  have hq1 : q ≤ 1000 := by omega
  clear hO hql HRD
  go_wp2_with fail
  go_loopw [8, 7, 6] (fun e8 e7 e6 wr => ∃ y : Nat, y ≤ H ∧ e8 = .int .i64 y ∧ e7 = .int .i64 0 ∧ e6 = .slice E q cq ∧ Below w4.heap.size w4 wr) (fun e8 _ _ _ => H - (intOf e8).toNat)
  case atStart => exact ⟨0, Nat.zero_le _, rfl, rfl, rfl, Below.refl _ _⟩
  case round =>
    obtain ⟨y, hy, rfl, rfl, rfl, hb⟩ := hrel
    by_cases hlt : y < H
    · have hy0 : (0 : Int) ≤ (y : Int) := by omega
      have hy1 : (y : Int) < (H : Int) := by omega
      go_wp2_with fail
      go_loopw [9, 7, 6] (fun e9 e7 e6 wr => ∃ x : Nat, x ≤ W ∧ e9 = .int .i64 x ∧ e7 = .int .i64 0 ∧ e6 = .slice E q cq ∧ Below w4.heap.size w4 wr) (fun e9 _ _ _ => W - (intOf e9).toNat)
      case atStart => exact ⟨0, Nat.zero_le _, rfl, rfl, rfl, hb⟩
      case round =>
        clear hb
        obtain ⟨x, hx, rfl, rfl, rfl, hb⟩ := hrel
        by_cases hlx : x < W
        · have hx0 : (0 : Int) ≤ (x : Int) := by omega
          have hx1 : (x : Int) < (W : Int) := by omega
          cases hh : hasC cs (x : Int) (y : Int) with
          | true =>
            have HHC := Lib.hid hh
            clear hh
            go_wp2_with fail
            refine (HasCell_s D n cd cs x y _ (HRD4.out.below hb) HCL.out (by omega)).mono ?_
            rw [HHC.out]
            rintro e w6 ⟨rfl, hb6⟩
            go_wp2_with fail
            exact ⟨⟨x + 1, by omega, by go_num, rfl, rfl, bel_trans hb hb6⟩, by simp [intOf]; omega⟩
          | false =>
            have HHM := Lib.hid (HALL.out x y (by omega) (by omega) hh)
            have HHC := Lib.hid hh
            clear hh
            go_wp2_with fail
            refine (HasCell_s D n cd cs x y _ (HRD4.out.below hb) HCL.out (by omega)).mono ?_
            rw [HHC.out]
            rintro e w6 ⟨rfl, hb6⟩
            go_wp2_with fail
            refine (HasCell_s E q cq R x y _ (HRE.out.below (bel_trans hb hb6)) HQL.out (by omega)).mono ?_
            rw [HHM.out]
            rintro e w7 ⟨rfl, hb7⟩
            go_wp2_with fail
            exact ⟨⟨x + 1, by omega, by go_num, rfl, rfl, bel_trans (bel_trans hb hb6) hb7⟩, by simp [intOf]; omega⟩
        · obtain rfl : x = W := by omega
          have hx1 : ¬ (x : Int) < (x : Int) := by omega
          go_wp2_with fail
          exact ⟨⟨y + 1, by omega, by go_num, rfl, rfl, hb⟩, by simp [intOf]; omega⟩
    · obtain rfl : y = H := by omega
      have hy1 : ¬ (y : Int) < (y : Int) := by omega
      go_wp2_with fail
      go_ret
      exact ⟨rfl, bel_trans hb04 hb⟩
end Go.Proofs.Ytglilkneipfheaa

/- Shapes with holes, snakes, counted among all shapes: both sides, and the laws. -/
namespace Go.Proofs.Ytglilkneipfheaa
open Go.RowKit
set_option linter.unusedVariables false
attribute [local go_sem ↓] Go.wp_at_zero Go.wp_at_succ

theorem fixA_okI (n : Int) : ∀ x ∈ fixA n, FullI x := by
  intro x hx
  unfold fixA at hx
  split at hx
  · exact okI_full (okI_fix _ (by omega) x hx)
  · simp at hx
theorem fixA_okS (n : Int) : ∀ x ∈ fixA n, ∃ T R, FullS x T R ∧ T ≤ 1000 := by
  intro x hx
  unfold fixA at hx
  split at hx
  · exact okS_full (okS_fix _ (by omega) x hx)
  · simp at hx
def holeV (n : Int) : Int := if fixA n = [] then -1 else 0
set_option maxRecDepth 100000 in
set_option maxHeartbeats 3200000 in
theorem HoleTable_i (n : Int) (w : World) : Calls Try.prog 51 #[.int .i64 n] w (Ret w (.int .i64 (holeV n))) := by
  have hsh := fixA_shape2 n
  have hfl := fixA_len2 n
  have hok := fixA_okI n
  obtain ⟨F, hF⟩ : ∃ F, fixA n = F := ⟨_, rfl⟩
  have hV : holeV n = if F = [] then -1 else 0 := by unfold holeV; rw [hF]
  rw [hF] at hsh hfl hok
  have HSH := Lib.hid hsh
  have HF := Lib.hid hF
  have HV := Lib.hid hV
  have HOK := Lib.hid hok
  clear hsh hF hV hok
  go_enter Try.func51, Try.ntmps51
  go_wp2_with fail
  refine (FixedShapes_i n _).mono ?_
  rw [HF.out]
  rintro e w1 ⟨A0, m, c, hs, rfl, hO, hb1⟩
  have hml : F.length = m := hO.flen
  by_cases h0 : m = 0
  · subst h0
    have hF0 : F = [] := List.length_eq_zero_iff.1 hml
    have HW : Hid (holeV n = -1) := by show _ = _; rw [HV.out, if_pos hF0]
    clear hO hml hF0
    go_wp2_with fail
    go_ret
    exact ⟨by rw [HW.out]; rfl, hb1⟩
  · have hm0 : ((m : Int) == 0) = false := by rw [beq_eq_false_iff_ne]; omega
    have HW : Hid (holeV n = 0) := by show _ = _; rw [HV.out, if_neg (fun e => h0 (by rw [← hml, e]; rfl))]
    have HRF := Lib.hid hO.rd
    have HFL := Lib.hid hml
    have hmb : m ≤ 1048576 := by omega
    clear hO hml hfl
    go_wp2_with fail
    go_loopw [14, 4] (fun e5 e3 wr => ∃ (i : Nat), i ≤ m ∧ e5 = .int .i64 i ∧ e3 = .int .i64 (0) ∧ Below w1.heap.size w1 wr) (fun e5 _ _ => m - (intOf e5).toNat)
    case atStart => exact ⟨0, Nat.zero_le _, rfl, rfl, Below.refl _ _⟩
    case round =>
      obtain ⟨i, hi, rfl, rfl, hb⟩ := hrel
      by_cases hlt : i < m
      · have hi0 : (0 : Int) ≤ (i : Int) := by omega
        have hi1 : (i : Int) < (m : Int) := by omega
        obtain ⟨x, t, gA, off, hsx, hfx, hAe, hg, d1, hrow⟩ := (HRF.out.below hb).at_ hlt
        have htF := List.mem_of_getElem? hfx
        have htsh := HSH.out t htF
        have HOKT := Lib.hid (HOK.out t htF)
        obtain ⟨C1, m1, k1⟩ := x
        have hl1 : t.length = m1 := hrow.1
        have ht8 := (shape_len htsh).2
        rw [hl1] at ht8
        have HL1 := Lib.hid hl1
        have HT := Lib.hid htsh
        have HROW := Lib.hid hrow
        dsimp only at d1
        cases hAe
        (try simp only [Nat.zero_add] at d1)
        clear hsx hfx htF hrow hl1 htsh
        go_wp2_with fail
        refine (HolesOf_i C1 m1 k1 t _ HROW.out.2.1 HL1.out HT.out HOKT.out).mono ?_
        rintro e w2 ⟨rfl, hb2⟩
        clear d1
        go_wp2_with fail
        exact ⟨⟨i + 1, by omega, by go_num, rfl, bel_trans hb hb2⟩, by simp [intOf]; omega⟩
      · obtain rfl : i = m := by omega
        have hi1 : ¬ (i : Int) < (i : Int) := by omega
        go_wp2_with fail
        go_ret
        exact ⟨by rw [HW.out]; rfl, bel_trans hb1 hb⟩

set_option maxRecDepth 100000 in
set_option maxHeartbeats 3200000 in
theorem HoleTable_s (n : Int) (w : World) : Calls Try.prog 52 #[.int .i64 n] w (Ret w (.int .i64 (holeV n))) := by
  have hsh := fixA_shape2 n
  have hfl := fixA_len2 n
  have hok := fixA_okS n
  obtain ⟨F, hF⟩ : ∃ F, fixA n = F := ⟨_, rfl⟩
  have hV : holeV n = if F = [] then -1 else 0 := by unfold holeV; rw [hF]
  rw [hF] at hsh hfl hok
  have HSH := Lib.hid hsh
  have HF := Lib.hid hF
  have HV := Lib.hid hV
  have HOK := Lib.hid hok
  clear hsh hF hV hok
  go_enter Try.func52, Try.ntmps52
  go_wp2_with fail
  refine (FixedShapes_s n _).mono ?_
  rw [HF.out]
  rintro e w1 ⟨gA0, m, c, hs, rfl, hO, hb1⟩
  have hml : F.length = m := hO.flen
  by_cases h0 : m = 0
  · subst h0
    have hF0 : F = [] := List.length_eq_zero_iff.1 hml
    have HW : Hid (holeV n = -1) := by show _ = _; rw [HV.out, if_pos hF0]
    clear hO hml hF0
    go_wp2_with fail
    go_ret
    exact ⟨by rw [HW.out]; rfl, hb1⟩
  · have hm0 : ((m : Int) == 0) = false := by rw [beq_eq_false_iff_ne]; omega
    have HW : Hid (holeV n = 0) := by show _ = _; rw [HV.out, if_neg (fun e => h0 (by rw [← hml, e]; rfl))]
    have HRF := Lib.hid hO.rd
    have HFL := Lib.hid hml
    have hmb : m ≤ 1048576 := by omega
    clear hO hml hfl
    go_wp2_with fail
    go_loopw [5, 4] (fun e5 e3 wr => ∃ (i : Nat), i ≤ m ∧ e5 = .int .i64 i ∧ e3 = .int .i64 (0) ∧ Below w1.heap.size w1 wr) (fun e5 _ _ => m - (intOf e5).toNat)
    case atStart => exact ⟨0, Nat.zero_le _, rfl, rfl, Below.refl _ _⟩
    case round =>
      obtain ⟨i, hi, rfl, rfl, hb⟩ := hrel
      by_cases hlt : i < m
      · have hi0 : (0 : Int) ≤ (i : Int) := by omega
        have hi1 : (i : Int) < (m : Int) := by omega
        obtain ⟨x, t, gA, off, hsx, hfx, hAe, hg, d1, hrow⟩ := (HRF.out.below hb).at_ hlt
        have htF := List.mem_of_getElem? hfx
        have htsh := HSH.out t htF
        have HOKT := Lib.hid (HOK.out t htF)
        obtain ⟨C1, m1, k1⟩ := x
        have hl1 : t.length = m1 := hrow.1
        have ht8 := (shape_len htsh).2
        rw [hl1] at ht8
        have HL1 := Lib.hid hl1
        have HT := Lib.hid htsh
        have HROW := Lib.hid hrow
        dsimp only at d1
        cases hAe
        (try simp only [Nat.zero_add] at d1)
        clear hsx hfx htF hrow hl1 htsh
        go_wp2_with fail
        refine (HolesOf_s C1 m1 k1 t _ HROW.out.2.1 HL1.out HT.out HOKT.out).mono ?_
        rintro e w2 ⟨rfl, hb2⟩
        clear d1
        go_wp2_with fail
        exact ⟨⟨i + 1, by omega, by go_num, rfl, bel_trans hb hb2⟩, by simp [intOf]; omega⟩
      · obtain rfl : i = m := by omega
        have hi1 : ¬ (i : Int) < (i : Int) := by omega
        go_wp2_with fail
        go_ret
        exact ⟨by rw [HW.out]; rfl, bel_trans hb1 hb⟩

end Go.Proofs.Ytglilkneipfheaa

/- The law on the tables' sums. -/
namespace Go.Proofs.Ytglilkneipfheaa
open Go.RowKit
set_option linter.unusedVariables false
attribute [local go_sem ↓] Go.wp_at_zero Go.wp_at_succ
/-- A number below a bound, less one; nothing that was there is written. -/
def RetN (w : World) (m : Nat) (e : Ending) (w' : World) : Prop := ∃ q : Nat, e = .returned (.int .i64 ((q : Int) - 1)) ∧ q < m ∧ Below w.heap.size w w'
theorem grown_new {w w1 w2 : World} {g : Nat} (h : Below w.heap.size w w1) (hg : w.heap.size ≤ g) (k : w1.grownBy w2 (some g)) : Below w.heap.size w w2 := h.grown k h.size (fun g' e => by injection e with e; omega)
theorem l24Number_s (A : Option Addr) (n c : Nat) (bs : List UInt8) (w : World) (hr : Rd w A (vB bs)) (hl : bs.length = n) (hn : n ≤ 1048576) :
    Calls Try.prog 91 #[.slice A n c] w (RetN w 7) := by
  go_enter Try.func91, Try.ntmps91
  go_wp2_with fail
  refine (l1New_s A n c bs w hr hl hn).mono ?_
  rintro e w1 ⟨g, rfl, hc, hg, hb⟩
  have HC := Lib.hid hc
  have HB := Lib.hid hb
  clear hc hb hr hl
  go_wp2_with fail
  refine (l1Below_s A n c g 7 bs w1 HC.out hn (by omega) (by omega)).mono ?_
  rintro e w2 ⟨q, rfl, hq, hc2, hg2⟩
  have HG2 := Lib.hid hg2
  have eq1 : IntKind.i64.wrap ((q : Int) - 1) = (q : Int) - 1 := Go.IntWalk.i64_in _ (by omega)
  clear hc2 hg2
  go_wp2_with fail
  go_ret
  exact ⟨q, rfl, hq, grown_new HB.out hg HG2.out⟩
theorem DrawSiteTable_s (A : Option Addr) (n c : Nat) (bs : List UInt8) (w : World) (hr : Rd w A (vB bs)) (hl : bs.length = n) (hn : n ≤ 1048576) :
    Calls Try.prog 46 #[.slice A n c] w (RetN w 7) := by
  go_enter Try.func46, Try.ntmps46
  go_wp2_with fail
  refine (l24Number_s A n c bs w hr hl hn).mono ?_
  rintro e w1 ⟨q, rfl, hq, hb⟩
  go_wp2_with fail
  go_ret
  exact ⟨q, rfl, hq, hb⟩
def RetNN (w : World) (m k : Nat) (e : Ending) (w' : World) : Prop := ∃ q r : Nat, e = .returned (.tuple #[.int .i64 ((q : Int) - 1), .int .i64 ((r : Int) - 1)]) ∧ q < m ∧ r < k ∧ Below w.heap.size w w'
theorem DrawShapesWithSites_s (A : Option Addr) (n c : Nat) (bs : List UInt8) (w : World) (hr : Rd w A (vB bs)) (hl : bs.length = n) (hn : n ≤ 1048576) :
    Calls Try.prog 54 #[.slice A n c] w (RetNN w 7 15) := by
  go_enter Try.func54, Try.ntmps54
  go_wp2_with fail
  refine (l1New_s A n c bs w hr hl hn).mono ?_
  rintro e w1 ⟨g, rfl, hc, hg, hb⟩
  have HC := Lib.hid hc
  have HB := Lib.hid hb
  clear hc hb hr hl
  go_wp2_with fail
  refine (l1Below_s A n c g 7 bs w1 HC.out hn (by omega) (by omega)).mono ?_
  rintro e w2 ⟨q, rfl, hq, hc2, hg2⟩
  have HC2 := Lib.hid hc2
  have HG2 := Lib.hid (grown_new HB.out hg hg2)
  have eq1 : IntKind.i64.wrap ((q : Int) - 1) = (q : Int) - 1 := Go.IntWalk.i64_in _ (by omega)
  clear hc2 hg2
  go_wp2_with fail
  refine (l1Below_s A n c g 15 bs w2 HC2.out hn (by omega) (by omega)).mono ?_
  rintro e w3 ⟨r, rfl, hr, hc3, hg3⟩
  have HG3 := Lib.hid (grown_new HG2.out hg hg3)
  have er1 : IntKind.i64.wrap ((r : Int) - 1) = (r : Int) - 1 := Go.IntWalk.i64_in _ (by omega)
  clear hc3 hg3
  go_wp2_with fail
  go_ret2
  exact ⟨q, r, rfl, hq, hr, HG3.out⟩
theorem sum_take_succ (T : List Int) (i : Nat) (h : i < T.length) : (T.take (i + 1)).sum = (T.take i).sum + T[i] := by
  rw [List.take_succ_eq_append_getElem h, List.sum_append]
  simp
set_option maxRecDepth 100000 in
set_option maxHeartbeats 1600000 in
theorem law_FnSites (A : Option Addr) (n c : Nat) (bs : List UInt8) (w : World) (hr : Rd w A (vB bs)) (hl : bs.length = n) (hm : n ≤ maxLen) :
    Calls Try.prog 5 #[.slice A n c] w (Ret w (.bool true)) := by
  have HR := Lib.hid hr
  have HL := Lib.hid hl
  clear hr hl
  by_cases hbig : (n : Int) > 1048576
  · have hd : decide ((n : Int) > 1048576) = true := decide_eq_true hbig
    go_enter Try.func5, Try.ntmps5
    go_wp2_with fail
    refine (big_l A n c w).mono ?_
    rw [hd]
    rintro e w1 ⟨rfl, hb1⟩
    clear hd
    go_wp2_with fail
    go_ret
    exact ⟨rfl, hb1⟩
  · have hd : decide ((n : Int) > 1048576) = false := decide_eq_false hbig
    have hn : n ≤ 1048576 := by omega
    clear hbig hm
    go_enter Try.func5, Try.ntmps5
    go_wp2_with fail
    refine (big_l A n c w).mono ?_
    rw [hd]
    rintro e w1 ⟨rfl, hb1⟩
    have HB1 := Lib.hid hb1
    clear hd hb1
    go_wp2_with fail
    refine (DrawSiteTable_s A n c bs w1 (HR.out.below HB1.out) HL.out hn).mono ?_
    rintro e w2 ⟨q, rfl, hq, hb2⟩
    obtain ⟨m, hmq⟩ : ∃ m : Int, (q : Int) - 1 = m := ⟨_, rfl⟩
    have hm7 : -1 ≤ m ∧ m ≤ 5 := by omega
    have hsit := sites_ok m
    obtain ⟨T, hT⟩ : ∃ T, tabV (fixA m) = T := ⟨_, rfl⟩
    obtain ⟨U, hU⟩ : ∃ U, tabVG perH (fixA m) = U := ⟨_, rfl⟩
    obtain ⟨mo, hmo⟩ : ∃ mo, mostTo T T.length = mo := ⟨_, rfl⟩
    obtain ⟨cv, hcv⟩ : ∃ cv, cntV m 6 = cv := ⟨_, rfl⟩
    obtain ⟨hv, hhv⟩ : ∃ hv, holeV m = hv := ⟨_, rfl⟩
    obtain ⟨fe, hfe⟩ : ∃ fe, fewV T = fe := ⟨_, rfl⟩
    rw [hT, hU, hmo, hcv] at hsit
    have hLT : T.length = U.length := by
      rcases hsit with ⟨h1, h2⟩ | ⟨h1, h2, _⟩
      · rw [h1, h2]
      · rw [h1, h2]
    have hL13 : T.length ≤ 13 := by
      rcases hsit with ⟨h1, h2⟩ | ⟨h1, h2, _⟩
      · rw [h1]; simp
      · omega
    have hTp : ∀ x ∈ T, 0 ≤ x := by rw [← hT]; exact tabG_pos nbN (fixA m)
    have hUp : ∀ x ∈ U, 0 ≤ x := by rw [← hU]; exact tabG_pos perH (fixA m)
    have hcv2 : cv ≤ 1048576 := by
      rw [← hcv]
      unfold cntV
      split
      · next h6 =>
        rcases (by omega : m = 1 ∨ m = 2 ∨ m = 3 ∨ m = 4 ∨ m = 5) with rfl | rfl | rfl | rfl | rfl
        · have := fixA_len2 1; unfold fixA at this; rw [if_pos (by omega)] at this; omega
        · have := fixA_len2 2; unfold fixA at this; rw [if_pos (by omega)] at this; omega
        · have := fixA_len2 3; unfold fixA at this; rw [if_pos (by omega)] at this; omega
        · have := fixA_len2 4; unfold fixA at this; rw [if_pos (by omega)] at this; omega
        · have := fixA_len2 5; unfold fixA at this; rw [if_pos (by omega)] at this; omega
      · omega
    have hTs : T.sum ≤ 1048576 := by
      rcases hsit with ⟨h1, _⟩ | ⟨_, _, h1, _⟩
      · rw [h1]; simp
      · omega
    have hUs : U.sum ≤ 1048576 := by
      rcases hsit with ⟨_, h1⟩ | ⟨_, _, _, h1, _⟩
      · rw [h1]; simp
      · omega
    have HTP := Lib.hid hTp
    have HUP := Lib.hid hUp
    have HTS := Lib.hid hTs
    have HUS := Lib.hid hUs
    have HSI := Lib.hid hsit
    have HT := Lib.hid hT
    have HU := Lib.hid hU
    have HMO := Lib.hid hmo
    have HCV := Lib.hid hcv
    have HHV := Lib.hid hhv
    have HFE := Lib.hid hfe
    have HLT := Lib.hid hLT
    have hhn : (hv != hv) = false := by simp
    have g2 := bel_trans HB1.out hb2
    rw [hmq]
    clear hTp hUp hTs hUs hcv2 hsit hT hU hmo hcv hhv hfe hLT hmq hb2
    go_wp2_with fail
    refine (SiteTable_i m w2).mono ?_
    rw [HT.out]
    rintro e w3 ⟨AT, nT, cT, rfl, oT, hb3⟩
    have hnT : T.length = nT := by have h1 := own_len oT; rw [vI_length] at h1; omega
    have HOT := Lib.hid (Rd.of_own oT)
    have HNT := Lib.hid hnT
    have g3 := bel_trans g2 hb3
    clear oT
    go_wp2_with fail
    refine (PerimeterTable_i m w3).mono ?_
    rw [HU.out]
    rintro e w4 ⟨AU, nU, cU, rfl, oU, hb4⟩
    have hnU : U.length = nU := by have h1 := own_len oU; rw [vI_length] at h1; omega
    have HOU := Lib.hid (Rd.of_own oU)
    have HNU := Lib.hid hnU
    have g4 := bel_trans g3 hb4
    clear oU
    go_wp2_with fail
    refine (SiteTable_s m w4).mono ?_
    rw [HT.out]
    rintro e w5 ⟨BT, n5, c5, rfl, o5, hb5⟩
    have hn5 : T.length = n5 := by have h1 := own_len o5; rw [vI_length] at h1; omega
    have HO5 := Lib.hid (Rd.of_own o5)
    have HN5 := Lib.hid hn5
    have g5 := bel_trans g4 hb5
    have hnT2 : nT ≤ 13 := by omega
    have hnU2 : nU ≤ 13 := by have := HLT.out; omega
    clear o5 hn5 hnT hnU
    go_wp2_with fail
    refine (sameInts_t AT BT nT cT n5 c5 T w5 ((HOT.out.below hb4).below hb5) HO5.out HNT.out HN5.out (by omega)).mono ?_
    rintro e w6 ⟨rfl, hb6⟩
    have g6 := bel_trans g5 hb6
    go_wp2_with fail
    refine (PerimeterTable_s m w6).mono ?_
    rw [HU.out]
    rintro e w7 ⟨BU, n7, c7, rfl, o7, hb7⟩
    have hn7 : U.length = n7 := by have h1 := own_len o7; rw [vI_length] at h1; omega
    have HO7 := Lib.hid (Rd.of_own o7)
    have HN7 := Lib.hid hn7
    have g7 := bel_trans g6 hb7
    clear o7 hn7
    go_wp2_with fail
    refine (sameInts_t AU BU nU cU n7 c7 U w7 (((HOU.out.below hb5).below hb6).below hb7) HO7.out HNU.out HN7.out (by omega)).mono ?_
    rintro e w8 ⟨rfl, hb8⟩
    have g8 := bel_trans g7 hb8
    go_wp2_with fail
    refine (HoleTable_i m w8).mono ?_
    rw [HHV.out]
    rintro e w9 ⟨rfl, hb9⟩
    have g9 := bel_trans g8 hb9
    go_wp2_with fail
    refine (HoleTable_s m w9).mono ?_
    rw [HHV.out]
    rintro e w10 ⟨rfl, hb10⟩
    have g10 := bel_trans g9 hb10
    have HT10 := Lib.hid (HOT.out.below (bel_trans (bel_trans (bel_trans (bel_trans (bel_trans (bel_trans hb4 hb5) hb6) hb7) hb8) hb9) hb10))
    have HU10 := Lib.hid (HOU.out.below (bel_trans (bel_trans (bel_trans (bel_trans (bel_trans hb5 hb6) hb7) hb8) hb9) hb10))
    have HG10 := Lib.hid g10
    clear hb3 hb4 hb5 hb6 hb7 hb8 hb9 hb10 g2 g3 g4 g5 g6 g7 g8 g9 g10 HOT HOU HO5 HO7
    go_wp2_with fail
    go_loopw [8, 6, 7] (fun e8 e6 e7 wr => ∃ (i : Nat) (a b : Int), i ≤ nT ∧ e8 = .int .i64 i ∧ e6 = .int .i64 a ∧ e7 = .int .i64 b ∧ a = (T.take i).sum ∧ b = (U.take i).sum ∧ Below w10.heap.size w10 wr) (fun e8 _ _ _ => nT - (intOf e8).toNat)
    case atStart => exact ⟨0, 0, 0, Nat.zero_le _, rfl, rfl, rfl, by simp, by simp, Below.refl _ _⟩
    case round =>
      obtain ⟨i, a, b, hi, rfl, rfl, rfl, ha, hb', hb⟩ := hrel
      have HA := Lib.hid ha
      have HBB := Lib.hid hb'
      have HB := Lib.hid hb
      clear ha hb' hb
      by_cases hlt : i < nT
      · have hi0 : (0 : Int) ≤ (i : Int) := by omega
        have hi1 : (i : Int) < (nT : Int) := by omega
        have hnn : nU = nT := by have h1 := HLT.out; have h2 := HNT.out; have h3 := HNU.out; omega
        have hi2 : (i : Int) < (nU : Int) := by omega
        have hiT : i < T.length := by rw [HNT.out]; exact hlt
        have hiU : i < U.length := by rw [HNU.out]; omega
        obtain ⟨g, off, hA, hg, d1⟩ := RdI.at_ (HT10.out.below HB.out) hiT
        obtain ⟨g2, off2, hA2, hg2, d2⟩ := RdI.at_ (HU10.out.below HB.out) hiU
        have p1 := sum_prefix T (i + 1) HTP.out
        have p2 := sum_prefix U (i + 1) HUP.out
        have s1 := sum_take_succ T i hiT
        have s2 := sum_take_succ U i hiU
        obtain ⟨v, hv1⟩ : ∃ v, T[i] = v := ⟨_, rfl⟩
        obtain ⟨u, hu1⟩ : ∃ u, U[i] = u := ⟨_, rfl⟩
        rw [hv1] at d1 s1
        rw [hu1] at d2 s2
        rw [← HA.out] at s1
        rw [← HBB.out] at s2
        have hTS := HTS.out
        have hUS := HUS.out
        have e1 : IntKind.i64.wrap (a + v) = a + v := Go.IntWalk.i64_in _ (by omega)
        have e2 : IntKind.i64.wrap (b + u) = b + u := Go.IntWalk.i64_in _ (by omega)
        have HS1 := Lib.hid s1
        have HS2 := Lib.hid s2
        subst hA hA2
        clear p1 p2 s1 s2 hv1 hu1 hTS hUS hnn
        go_wp2_with fail
        exact ⟨⟨i + 1, a + v, b + u, by omega, by go_num, rfl, rfl, HS1.out.symm, HS2.out.symm, HB.out⟩, by simp [intOf]; omega⟩
      · obtain rfl : i = nT := by omega
        have hi1 : ¬ (i : Int) < (i : Int) := by omega
        have haT : a = T.sum := by rw [HA.out, List.take_of_length_le (by rw [HNT.out]; exact Nat.le_refl _)]
        have hbU : b = U.sum := by rw [HBB.out, List.take_of_length_le (by have h1 := HNT.out; have h2 := HLT.out; omega)]
        have g11 := bel_trans HG10.out HB.out
        clear HA HBB HTP HUP HTS HUS HT10 HU10
        rcases HSI.out with ⟨h1, h2⟩ | ⟨h1, h2, h3, h4, h5, h6, h7, h8⟩
        · have h0 : ¬ (i : Int) > 0 := by have h3 := HNT.out; rw [h1] at h3; simp at h3; omega
          clear haT hbU h1 h2
          go_wp2_with fail
          refine (DrawShapesWithSites_s A n c bs _ (HR.out.below g11) HL.out hn).mono ?_
          rintro e v1 ⟨q2, r2, rfl, hq2, hr2, hv1⟩
          obtain ⟨m2, hm2⟩ : ∃ m2 : Int, (q2 : Int) - 1 = m2 := ⟨_, rfl⟩
          obtain ⟨k2, hk2⟩ : ∃ k2 : Int, (r2 : Int) - 1 = k2 := ⟨_, rfl⟩
          rw [hm2, hk2]
          obtain ⟨sw, hsw⟩ : ∃ sw, swV (tabV (fixA m2)) k2 = sw := ⟨_, rfl⟩
          have HSW := Lib.hid hsw
          have hss : (sw == sw) = true := by simp
          have hmm : (mo == mo) = true := by simp
          have hff : (fe == fe) = true := by simp
          have G1 := Lib.hid (bel_trans g11 hv1)
          clear hm2 hk2 hsw hv1
          go_wp2_with fail
          refine (ShapesWithSites_i m2 k2 _).mono ?_
          rw [HSW.out]
          rintro e v2 ⟨rfl, hv2⟩
          go_wp2_with fail
          refine (ShapesWithSites_s m2 k2 _).mono ?_
          rw [HSW.out]
          rintro e v3 ⟨rfl, hv3⟩
          go_wp2_with fail
          refine (MostNeighbours_i m _).mono ?_
          rw [HT.out, HMO.out]
          rintro e v4 ⟨rfl, hv4⟩
          go_wp2_with fail
          refine (MostNeighbours_s m _).mono ?_
          rw [HT.out, HMO.out]
          rintro e v5 ⟨rfl, hv5⟩
          go_wp2_with fail
          refine (FewestNeighbours_i m _).mono ?_
          rw [HT.out, HFE.out]
          rintro e v6 ⟨rfl, hv6⟩
          go_wp2_with fail
          refine (FewestNeighbours_s m _).mono ?_
          rw [HT.out, HFE.out]
          rintro e v7 ⟨rfl, hv7⟩
          go_wp2_with fail
          go_ret
          exact ⟨by simp, bel_trans (bel_trans (bel_trans (bel_trans (bel_trans (bel_trans G1.out hv2) hv3) hv4) hv5) hv6) hv7⟩
        · have h0 : (i : Int) > 0 := by have h3 := HNT.out; omega
          have hac : a = cv := by rw [haT, h3]
          have hbc : b = cv := by rw [hbU, h4]
          subst hac
          have hbc2 : (b != a) = false := by simp [hbc]
          have haa : (a != a) = false := by simp
          have em1 : IntKind.i64.wrap (2 * m) = 2 * m := Go.IntWalk.i64_in _ (by omega)
          have em2 : IntKind.i64.wrap (2 * m + 2) = 2 * m + 2 := Go.IntWalk.i64_in _ (by omega)
          have hmo2 : (mo != 2 * m + 2) = false := by simp [h5]
          clear haT hbU h1 h2 h3 h4 h5 h6 hbc
          go_wp2_with fail
          refine (CountByGrowth_i m _).mono ?_
          rw [HCV.out]
          rintro e w12 ⟨rfl, hb12⟩
          go_wp2_with fail
          refine (MostNeighbours_i m _).mono ?_
          rw [HT.out, HMO.out]
          rintro e w13 ⟨rfl, hb13⟩
          have g13 := bel_trans (bel_trans g11 hb12) hb13
          go_wp2_with fail
          refine (DrawShapesWithSites_s A n c bs _ (HR.out.below g13) HL.out hn).mono ?_
          rintro e v1 ⟨q2, r2, rfl, hq2, hr2, hv1⟩
          obtain ⟨m2, hm2⟩ : ∃ m2 : Int, (q2 : Int) - 1 = m2 := ⟨_, rfl⟩
          obtain ⟨k2, hk2⟩ : ∃ k2 : Int, (r2 : Int) - 1 = k2 := ⟨_, rfl⟩
          rw [hm2, hk2]
          obtain ⟨sw, hsw⟩ : ∃ sw, swV (tabV (fixA m2)) k2 = sw := ⟨_, rfl⟩
          have HSW := Lib.hid hsw
          have hss : (sw == sw) = true := by simp
          have hmm : (mo == mo) = true := by simp
          have hff : (fe == fe) = true := by simp
          have G1 := Lib.hid (bel_trans g13 hv1)
          clear hm2 hk2 hsw hv1
          go_wp2_with fail
          refine (ShapesWithSites_i m2 k2 _).mono ?_
          rw [HSW.out]
          rintro e v2 ⟨rfl, hv2⟩
          go_wp2_with fail
          refine (ShapesWithSites_s m2 k2 _).mono ?_
          rw [HSW.out]
          rintro e v3 ⟨rfl, hv3⟩
          go_wp2_with fail
          refine (MostNeighbours_i m _).mono ?_
          rw [HT.out, HMO.out]
          rintro e v4 ⟨rfl, hv4⟩
          go_wp2_with fail
          refine (MostNeighbours_s m _).mono ?_
          rw [HT.out, HMO.out]
          rintro e v5 ⟨rfl, hv5⟩
          go_wp2_with fail
          refine (FewestNeighbours_i m _).mono ?_
          rw [HT.out, HFE.out]
          rintro e v6 ⟨rfl, hv6⟩
          go_wp2_with fail
          refine (FewestNeighbours_s m _).mono ?_
          rw [HT.out, HFE.out]
          rintro e v7 ⟨rfl, hv7⟩
          go_wp2_with fail
          go_ret
          exact ⟨by simp, bel_trans (bel_trans (bel_trans (bel_trans (bel_trans (bel_trans G1.out hv2) hv3) hv4) hv5) hv6) hv7⟩
end Go.Proofs.Ytglilkneipfheaa
