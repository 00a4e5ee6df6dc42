/- The holes of a shape that has none: the program. -/
import Derived.Test.YteelmhmdnljjnaaHolesM
import Derived.Test.YteelmhmdnljjnaaExtI
import Derived.Test.YteelmhmdnljjnaaQueue
import Derived.Outline
import Derived.WalkLawsBesides
import Derived.WalkSpells
import Derived.BigQuiet
import Derived.Deep.QuietTactic
import Derived.Deep.RegionHeld3
import Derived.Deep.RegionWith
import Derived.Deep.DeepCutAuto
import Derived.Deep.CutBlock
import Derived.Deep.DrawnRows
namespace Go.Proofs.Yteelmhmdnljjnaa
open Go.RowKit
set_option linter.unusedVariables false
attribute [local go_sem ↓] Go.wp_at_zero Go.wp_at_succ

/-- The grid's cells. -/
def vG (m : Nat) : List Value := (List.range 100).map fun i => .bool (m.testBit i)
theorem vG_len (m : Nat) : (vG m).length = 100 := by simp [vG]
theorem vG_get {m p : Nat} (h : p < 100) : (vG m)[p]? = some (.bool (m.testBit p)) := by simp [vG, h]
theorem vG_set {m p : Nat} (h : p < 100) : (vG m).set p (.bool true) = vG (m ||| 2 ^ p) := by
  apply List.ext_getElem?
  intro i
  rw [List.getElem?_set, vG_len]
  by_cases hi : i < 100
  · rw [vG_get hi, vG_get hi]
    by_cases e : p = i
    · subst e; simp [h, Nat.testBit_or]
    · simp [e, Nat.testBit_or]
  · have e : p ≠ i := by omega
    rw [if_neg e, List.getElem?_eq_none (by rw [vG_len]; omega), List.getElem?_eq_none (by rw [vG_len]; omega)]
theorem blkG_set {w : World} {g : Nat} {t : TypeId} {m p : Nat} (hB : Blk w g t (vG m).toArray) (h : p < 100) : Blk (w.setCell ⟨g, p, none⟩ (.bool true)) g t (vG (m ||| 2 ^ p)).toArray := by
  have := hB.set_ p (.bool true)
  rwa [List.setIfInBounds_toArray, vG_set h] at this
theorem blkG_cell {w : World} {g : Nat} {t : TypeId} {m p : Nat} (hB : Blk w g t (vG m).toArray) (h : p < 100) : w.cell? ⟨g, p, none⟩ = some (.bool (m.testBit p)) := by
  rw [hB.cell]; simpa using vG_get (m := m) h
theorem zeroGrid (w : World) : (zeroValue 44).run Try.prog w = .ok (.agg (vG 0).toArray) w := by kernel_rfl
attribute [local go_sem] zeroGrid
/-- The measure: places that are not marked, and the queue. -/
def isF : Value → Bool
  | .bool false => true
  | _ => false
def unW (w : World) (g : Nat) : Nat := match w.heap[g]? with
  | some (.cells cs _ _) => cs.toList.countP isF
  | _ => 0
theorem unW_of {w : World} {g : Nat} {t : TypeId} {m : Nat} (h : Blk w g t (vG m).toArray) : unW w g = un m := by
  unfold Blk at h
  unfold unW
  rw [h]
  simp only [vG, un, List.countP_map]
  congr 1
  funext i
  simp only [Function.comp]
  cases m.testBit i <;> rfl
def lenQ : Value → Nat
  | .slice _ n _ => n
  | _ => 0
theorem full_bit {p : Nat} (h : p < 100) : fullG.testBit p = true := by
  unfold fullG
  rw [Nat.testBit_two_pow_sub_one]
  simpa using h
theorem cells_bit0 {xs : List C} (h : ∀ c ∈ xs, onB c = true) : ∀ k, k ≤ xs.length → (cellsG xs k).testBit 0 = false
  | 0, _ => by simp [cellsG]
  | k + 1, hk => by
    have hx : xs.getD k (0, 0) ∈ xs := by rw [List.getD_eq_getElem?_getD, List.getElem?_eq_getElem (by omega)]; exact List.getElem_mem _
    have ho := h _ hx
    simp only [onB, Bool.and_eq_true, decide_eq_true_eq] at ho
    show (cellsG xs k ||| _).testBit 0 = false
    rw [Nat.testBit_or, cells_bit0 h k (by omega), Nat.testBit_two_pow]
    simp only [Bool.false_or, decide_eq_false_iff_not]
    unfold gp
    omega
set_option maxRecDepth 100000 in
set_option maxHeartbeats 6400000 in
theorem HolesOf_i (A : Option Addr) (n c : Nat) (xs : List C) (w : World) (hr : Rd w A (vC xs)) (hl : xs.length = n) (hs : isShape xs = true) (hf : FullI xs) :
    Calls Try.prog 22 #[.slice A n c] w (Ret w (.int .i64 0)) := by
  have hn8 := (shape_len hs).2
  rw [hl] at hn8
  have hob := shape_onB hs
  have hnn : n ≤ 1099511627776 := by omega
  obtain ⟨M0, hM0⟩ : ∃ M0, cellsG xs n = M0 := ⟨_, rfl⟩
  have hz0 := cells_bit0 hob n (by omega)
  rw [hM0] at hz0
  obtain ⟨K, hK⟩ := hf
  rw [hl, hM0] at hK
  have HR := Lib.hid hr
  have HL := Lib.hid hl
  have HS := Lib.hid hs
  have HOB := Lib.hid hob
  have HM0 := Lib.hid hM0
  have HZ0 := Lib.hid hz0
  have HKK := Lib.hid hK
  clear hr hl hs hob hM0 hz0 hK
  go_enter Try.func22, Try.ntmps22
  go_wp2_with fail
  refine (IsShape_i A n c xs _ HR.out HL.out hnn).mono ?_
  rw [HS.out]
  rintro e w1 ⟨rfl, hb1⟩
  go_wp2_with fail
  generalize hN : w1.heap.size = N
  have HN := Lib.hid hN
  have hNw : w.heap.size ≤ N := by have := hb1.size; omega
  have HI : Hid (Blk (w1.alloc (.cells (vG 0).toArray 44)) N 44 (vG 0).toArray) := by
    have := Blk.new w1 44 (vG 0).toArray
    rw [hN] at this
    exact this
  have hb2 : Below w.heap.size w (w1.alloc (.cells (vG 0).toArray 44)) := bel_alloc hb1 _
  have hNlt : N < (w1.alloc (.cells (vG 0).toArray 44)).heap.size := HI.out.lt
  clear hN
  go_loopw [18] (fun e18 wr => ∃ k : Nat, k ≤ n ∧ e18 = .int .i64 k ∧ Blk wr N 44 (vG (cellsG xs k)).toArray ∧ Below w.heap.size w wr) (fun e18 _ => n - (intOf e18).toNat)
  case atStart => exact ⟨0, Nat.zero_le _, rfl, HI.out, hb2⟩
  case round =>
    clear HI hb2 hNlt
    obtain ⟨k, hk, rfl, hB, hb⟩ := hrel
    have hNl := hB.lt
    by_cases hlt : k < n
    · have hkl : k < xs.length := by rw [HL.out]; exact hlt
      have hk0 : (0 : Int) ≤ (k : Int) := by omega
      have hk1 : (k : Int) < (n : Int) := by omega
      obtain ⟨g, off, rfl, hg, d1, d2⟩ := RdC.at_ (HR.out.below hb) hkl
      have ho := HOB.out _ (List.getElem_mem hkl)
      simp only [onB, Bool.and_eq_true, decide_eq_true_eq] at ho
      obtain ⟨⟨o1, o2⟩, o3, o4⟩ := ho
      obtain ⟨p, hp⟩ := Int.eq_ofNat_of_zero_le o1
      obtain ⟨q, hq⟩ := Int.eq_ofNat_of_zero_le o3
      have hst : cellsG xs (k + 1) = cellsG xs k ||| 2 ^ ((q + 1) * 10 + (p + 1)) := by
        show _ ||| 2 ^ gp _ = _
        rw [List.getD_eq_getElem?_getD, List.getElem?_eq_getElem hkl, Option.getD_some]
        congr 2
        unfold gp
        simp only
        omega
      rw [hp] at d1
      rw [hq] at d2
      obtain ⟨p1, hp1⟩ : ∃ p1 : Nat, p1 = p + 1 := ⟨_, rfl⟩
      obtain ⟨q1, hq1⟩ : ∃ q1 : Nat, q1 = q + 1 := ⟨_, rfl⟩
      rw [← hp1, ← hq1] at hst
      have i1 : (p : Int) + 1 = (p1 : Int) := by omega
      have i2 : (q : Int) + 1 = (q1 : Int) := by omega
      have i3 : (0 : Int) ≤ (p1 : Int) := by omega
      have i4 : (p1 : Int) < 10 := by omega
      have i5 : (0 : Int) ≤ (q1 : Int) := by omega
      have i6 : (q1 : Int) < 10 := by omega
      have i7 : IntKind.i64.wrap (p1 : Int) = (p1 : Int) := Go.IntWalk.i64_in _ (by omega)
      have i8 : IntKind.i64.wrap (q1 : Int) = (q1 : Int) := Go.IntWalk.i64_in _ (by omega)
      have hin : q1 * 10 + p1 < 100 := by omega
      have y0 := blkG_cell hB hin
      have f0 := hB.frozen (q1 * 10 + p1)
      have HST := Lib.hid hst
      have HB3 := Lib.hid ((blkG_set hB hin).alloc (.cells #[.int .i64 (p : Int), .int .i64 (q : Int)] 36))
      clear hst hp hq hp1 hq1 o1 o2 o3 o4 hB
      go_wp2_with fail
      go_region
      go_wp2_with fail
      exact ⟨⟨k + 1, by omega, by go_num, by rw [HST.out]; exact HB3.out.drew, (by (repeat (first | with_reducible exact Below.refl _ _ | with_reducible assumption | with_reducible apply bel_alloc | with_reducible apply bel_drew | with_reducible apply bel_drewN | ((with_reducible refine bel_set ?_ ?_); rotate_left; (simp <;> omega)) | (with_reducible refine bel_trans ?_ (by with_reducible assumption)))))⟩, by simp [intOf]; omega⟩
    · obtain rfl : k = n := by omega
      rw [HM0.out] at hB
      have HB := Lib.hid hB
      have hk1 : ¬ (k : Int) < (k : Int) := by omega
      have hk8 : k ≤ 8 := by omega
      clear hB
      go_wp2_with fail
      go_loopw [31, 6] (fun e31 e6 wq => ∃ y : Nat, y ≤ 10 ∧ e31 = .int .i64 y ∧ ((y = 0 ∧ e6 = .int .i64 0 ∧ Blk wq N 44 (vG M0).toArray) ∨ (0 < y ∧ e6 = .int .i64 1 ∧ Blk wq N 44 (vG fullG).toArray)) ∧ Below w.heap.size w wq) (fun e31 _ _ => 10 - (intOf e31).toNat)
      case atStart => exact ⟨0, by omega, rfl, .inl ⟨rfl, rfl, HB.out⟩, hb⟩
      case round =>
        clear HB hb hNl
        obtain ⟨y, hy, rfl, hcase, hb⟩ := hrel
        by_cases hlt : y < 10
        · have hy0 : (0 : Int) ≤ (y : Int) := by omega
          have hy1 : (y : Int) < 10 := by omega
          have HC := Lib.hid hcase
          clear hcase
          go_wp2_with fail
          go_loopw [34, 6] (fun e34 e6 wq => ∃ x : Nat, x ≤ 10 ∧ e34 = .int .i64 x ∧ ((y = 0 ∧ x = 0 ∧ e6 = .int .i64 0 ∧ Blk wq N 44 (vG M0).toArray) ∨ (0 < y + x ∧ e6 = .int .i64 1 ∧ Blk wq N 44 (vG fullG).toArray)) ∧ Below w.heap.size w wq) (fun e34 _ _ => 10 - (intOf e34).toNat)
          case atStart =>
            refine ⟨0, by omega, rfl, ?_, hb⟩
            rcases HC.out with ⟨h1, h2, h3⟩ | ⟨h1, h2, h3⟩
            · exact .inl ⟨h1, rfl, h2, h3⟩
            · exact .inr ⟨by omega, h2, h3⟩
          case round =>
            clear HC hb
            obtain ⟨x, hx, rfl, hcase, hb⟩ := hrel
            by_cases hlx : x < 10
            · have hx0 : (0 : Int) ≤ (x : Int) := by omega
              have hx1 : (x : Int) < 10 := by omega
              have hin : y * 10 + x < 100 := by omega
              rcases hcase with ⟨h1, h2, rfl, hB⟩ | ⟨h1, rfl, hB⟩
              · have hNl := hB.lt
                have hbit : M0.testBit (y * 10 + x) = false := by rw [h1, h2]; exact HZ0.out
                have z0 := blkG_cell hB hin
                rw [hbit] at z0
                have f0 := hB.frozen (y * 10 + x)
                have hini : flood (M0 ||| 2 ^ (y * 10 + x), [((x : Int), (y : Int))]) 0 = (M0 ||| 2 ^ (y * 10 + x), [((x : Int), (y : Int))]) := rfl
                have hst : (M0 ||| 2 ^ (y * 10 + x), [((x : Int), (y : Int))]) = (M0 ||| 2 ^ 0, [((0 : Int), (0 : Int))]) := by rw [h1, h2]; rfl
                have HST := Lib.hid hst
                have HINI := Lib.hid hini
                have HBS := Lib.hid (blkG_set hB hin)
                clear hB hini hst hbit h1 h2
                go_wp2_with fail
                have hq0 : World.ownsQ ((wr.setCell ⟨N, y * 10 + x, none⟩ (.bool true)).alloc (.cells #[.int .i64 (x : Int), .int .i64 (y : Int)] 36)) w.heap.size 36 2 wr.heap.size 0 1 1 (vC [((x : Int), (y : Int))]) := by
                  obtain ⟨g, hg, hq⟩ := ownQ_of (own_newC (wr.setCell ⟨N, y * 10 + x, none⟩ (.bool true)) 36 (x : Int) (y : Int) (base := w.heap.size) (by have := hb.size; simp; omega)) (by omega)
                  injection hg with hg
                  injection hg with hg
                  simp only [World.size_setCell] at hg
                  subst hg
                  exact hq
                have HQ0 := Lib.hid hq0
                have HB0 := Lib.hid (HBS.out.alloc (.cells #[.int .i64 (x : Int), .int .i64 (y : Int)] 36))
                have hb0 : Below w.heap.size w ((wr.setCell ⟨N, y * 10 + x, none⟩ (.bool true)).alloc (.cells #[.int .i64 (x : Int), .int .i64 (y : Int)] 36)) := bel_alloc (bel_set hb (by simpa using hNw)) _
                clear hq0 z0 f0 HBS
                go_loopw [9] (fun e9 wq => ∃ (i m cp g off l : Nat) (L : List C), e9 = .slice (some ⟨g, off, none⟩) l cp ∧ L.length = l ∧ flood (M0 ||| 2 ^ (y * 10 + x), [((x : Int), (y : Int))]) i = (m, L) ∧ World.ownsQ wq w.heap.size 36 2 g off l cp (vC L) ∧ g ≠ N ∧ Blk wq N 44 (vG m).toArray ∧ Below w.heap.size w wq) (fun e9 wq => 2 * unW wq N + lenQ e9)
                case atStart => exact ⟨0, _, 1, wr.heap.size, 0, 1, _, rfl, rfl, HINI.out, HQ0.out, by omega, HB0.out, hb0⟩
                case round =>
                  clear HINI HQ0 HB0 hb0 hb hNl
                  obtain ⟨i, m, cp, g, off, l, L, rfl, hLl, hfl, hq, hgN, hB, hb⟩ := hrel
                  have hQG := flood_q (st := (M0 ||| 2 ^ (y * 10 + x), [((x : Int), (y : Int))])) (by
                    intro c hc
                    simp only [List.mem_singleton] at hc
                    rw [hc]
                    simp [inG]
                    omega) i
                  rw [hfl] at hQG
                  simp only at hQG
                  have hNl := hB.lt
                  have hmea := flood_le (M0 ||| 2 ^ (y * 10 + x), [((x : Int), (y : Int))]) i
                  rw [hfl] at hmea
                  simp only [List.length_singleton] at hmea
                  have hun := un_le (M0 ||| 2 ^ (y * 10 + x))
                  have hl201 : l ≤ 201 := by omega
                  have HUW : Hid (2 * unW wr N + l = 2 * un m + L.length) := by show _ = _; rw [unW_of hB, hLl]
                  clear hmea hun
                  cases L with
                  | nil =>
                    have hl0 : l = 0 := by simpa using hLl.symm
                    subst hl0
                    have hend := flood_end (k := K) (st := (M0 ||| 2 ^ (y * 10 + x), [((x : Int), (y : Int))])) (by rw [HST.out, HKK.out]) (by rw [hfl] : (flood _ i).2 = [])
                    rw [hfl, HST.out, HKK.out] at hend
                    injection hend with hend _
                    subst hend
                    have HB := Lib.hid hB
                    have hlt0 : ¬ (0 : Int) < 0 := by omega
                    clear hfl hq hB hQG
                    go_wp2_with fail
                    exact ⟨⟨x + 1, by omega, by go_num, .inr ⟨by omega, rfl, HB.out⟩, hb⟩, by simp [intOf]; omega⟩
                  | cons c t =>
                    obtain ⟨l', rfl⟩ : ∃ l', l = l' + 1 := ⟨l - 1, by simp at hLl; omega⟩
                    have htl : t.length = l' := by simpa using hLl
                    have hlt0 : (0 : Int) < ((l' + 1 : Nat) : Int) := by omega
                    have hstep := flood_pop hfl
                    obtain ⟨px, py, hc, hpx, hpy, _, _⟩ := inG_at (hQG c (by simp))
                    subst hc
                    obtain ⟨g', off', hA, hgw, c1, c2⟩ := RdC.at_ (Rd.of_ownQ hq) (k := 0) (by simp)
                    simp only [Option.some.injEq, Addr.mk.injEq, and_true] at hA
                    obtain ⟨rfl, rfl⟩ := hA
                    simp only [List.getElem_cons_zero, Nat.zero_mul, Nat.add_zero] at c1 c2
                    have hqt := ownQ_tail hq
                    have hvd : (vC (((px : Int), (py : Int)) :: t)).drop 2 = vC t := rfl
                    rw [hvd] at hqt
                    have hcp : cp ≤ maxLen := hq.2.2.1
                    have hcp1 : l' + 1 ≤ cp := hq.2.1
                    unfold maxLen at hcp
                    have hQT : QG t := fun d hd => hQG d (List.mem_cons_of_mem _ hd)
                    have HQT := Lib.hid hQT
                    have HQ := Lib.hid hqt
                    have HB := Lib.hid hB
                    have HSTEP := Lib.hid hstep
                    have HTL := Lib.hid htl
                    clear hfl hq hqt hvd hB hQG hstep htl hLl hQT
                    go_upto_region 22 with fail
                    go_cut [9] (fun s wx => ∃ off1 cp1, s = .slice (some ⟨g, off1, none⟩) l' cp1 ∧ World.ownsQ wx w.heap.size 36 2 g off1 l' cp1 (vC t) ∧ Blk wx wr.heap.size 36 #[.int .i64 (px : Int), .int .i64 (py : Int)] ∧ Below wr.heap.size wr wx)
                    case first =>
                      by_cases h1 : cp = 1
                      · obtain rfl : l' = 0 := by omega
                        subst h1
                        go_wp2_with fail
                        go_meet
                        exact ⟨_, _, rfl, ownQ_keep HQ.out (bel_alloc (Below.refl _ _) _), Blk.new _ _ _, (by (repeat (first | with_reducible exact Below.refl _ _ | with_reducible assumption | with_reducible apply bel_alloc | with_reducible apply bel_drew | with_reducible apply bel_drewN | ((with_reducible refine bel_set ?_ ?_); rotate_left; (simp <;> omega)) | (with_reducible refine bel_trans ?_ (by with_reducible assumption)))))⟩
                      · have HN1 : Hid ((if cp = 1 then off else off + 2) = off + 2) := if_neg h1
                        have hc2 : (1 : Int) < (cp : Int) := by omega
                        have hc3 : 1 < cp := by omega
                        have hc4 : ¬ cp = 1 := h1
                        go_wp2_with fail
                        go_meet
                        exact ⟨_, _, rfl, by have h := ownQ_keep HQ.out (bel_alloc (Below.refl _ _) (.cells #[.int .i64 (px : Int), .int .i64 (py : Int)] 36)); rw [HN1.out] at h; exact h, Blk.new _ _ _, (by (repeat (first | with_reducible exact Below.refl _ _ | with_reducible assumption | with_reducible apply bel_alloc | with_reducible apply bel_drew | with_reducible apply bel_drewN | ((with_reducible refine bel_set ?_ ?_); rotate_left; (simp <;> omega)) | (with_reducible refine bel_trans ?_ (by with_reducible assumption)))))⟩
                    case rest =>
                      obtain ⟨off1, cp1, rfl, hQ1, hkc, hbx⟩ := hcut
                      have hgp : g ≠ wr.heap.size := by omega
                      have hb2 := bel_trans hb hbx
                      have hQ0 : QG (m, t).2 := HQT.out
                      have HB2 := Lib.hid (HB.out.below hbx)
                      have HQ2 := Lib.hid hQ1
                      have HKC := Lib.hid hkc
                      have HSN : Hid (∀ d, QG (sidesG (m, t) ((px : Int), (py : Int)) d).2) := fun d => sidesG_q hQ0 _ d
                      have HSU : Hid (∀ d, 2 * un (sidesG (m, t) ((px : Int), (py : Int)) d).1 + (sidesG (m, t) ((px : Int), (py : Int)) d).2.length ≤ 2 * un m + t.length) := fun d => sidesG_un (m, t) _ d
                      have k0 := hkc.cell 0
                      have k1 := hkc.cell 1
                      simp only [List.getElem?_toArray, List.getElem?_cons_zero, List.getElem?_cons_succ] at k0 k1
                      have kl := hkc.lt
                      clear hQ1 hkc hQ0 HB HQ HQT c1 c2 hgw hcp hcp1
                      go_wp2_with fail
                      refine (sides_i (px : Int) (py : Int) _ (by omega)).mono ?_
                      rintro e w5 ⟨D, q5, c5, rfl, hS, hb5⟩
                      obtain rfl : 4 = q5 := by have := own_len hS; rw [vC_length] at this; simp [sidesV] at this; omega
                      have hb05 := bel_trans hb2 hb5
                      have hDb : ∀ b, ob D = some b → b ≠ N ∧ b ≠ g := fun b h => by
                        have h1 := (own_lt hS b h).1
                        have h2 := (ownQ_lt HQ2.out).2
                        have h3 := HB2.out.lt
                        omega
                      have HDB := Lib.hid hDb
                      have HS5 := Lib.hid (Rd.of_own hS)
                      have HQ5 := Lib.hid (ownQ_keep HQ2.out hb5)
                      have HB5 := Lib.hid (HB2.out.below hb5)
                      have h00 : sidesG (m, t) ((px : Int), (py : Int)) 0 = (m, t) := rfl
                      have H00 := Lib.hid h00
                      clear hS hDb HQ2 HB2 HKC k0 k1 kl hb2 hb5 hb hbx h00
                      go_wp2_with fail
                      go_loopw [63, 9] (fun e63 e9 wq => ∃ (d m' cp g off l : Nat) (L : List C), d ≤ 4 ∧ e63 = .int .i64 d ∧ e9 = .slice (some ⟨g, off, none⟩) l cp ∧ L.length = l ∧ sidesG (m, t) ((px : Int), (py : Int)) d = (m', L) ∧ World.ownsQ wq w.heap.size 36 2 g off l cp (vC L) ∧ g ≠ N ∧ Blk wq N 44 (vG m').toArray ∧ Rd wq D (vC (sidesV ((px : Int), (py : Int)))) ∧ (∀ b, ob D = some b → b ≠ N ∧ b ≠ g) ∧ Below w.heap.size w wq) (fun e63 _ _ => 4 - (intOf e63).toNat)
                      case atStart => exact ⟨0, m, cp1, g, off1, l', t, by omega, rfl, rfl, HTL.out, H00.out, HQ5.out, hgN, HB5.out, HS5.out, HDB.out, hb05⟩
                      case round =>
                        clear HQ5 HB5 HS5 HDB hb05 H00 hgN hgp
                        obtain ⟨d, m', cp, g, off, l, L, hd, rfl, rfl, hLl, hsd, hq, hgN, hB, hrd, hdb, hb⟩ := hrel
                        have hqg := HSN.out d
                        have hsu := HSU.out d
                        rw [hsd] at hqg hsu
                        simp only at hqg hsu
                        have hl201 : l ≤ 700 := by have := un_le m; have := HTL.out; omega
                        by_cases hd4 : d < 4
                        · have hjl : d < (sidesV ((px : Int), (py : Int))).length := hd4
                          have hd0 : (0 : Int) ≤ (d : Int) := by omega
                          have hd1 : (d : Int) < 4 := by omega
                          obtain ⟨gD, oD, hDe, hgD, d1, d2⟩ := RdC.at_ hrd hjl
                          have hgd : (sidesV ((px : Int), (py : Int))).getD d (0, 0) = (sidesV ((px : Int), (py : Int)))[d] := by rw [List.getD_eq_getElem?_getD, List.getElem?_eq_getElem hjl]; rfl
                          have hst : sidesG (m, t) ((px : Int), (py : Int)) (d + 1) = sideG (m', L) (sidesV ((px : Int), (py : Int)))[d] := by
                            show sideG (sidesG (m, t) _ d) _ = _
                            rw [hsd, hgd]
                          obtain ⟨x', hx'⟩ : ∃ x', (sidesV ((px : Int), (py : Int)))[d].1 = x' := ⟨_, rfl⟩
                          obtain ⟨y', hy'⟩ : ∃ y', (sidesV ((px : Int), (py : Int)))[d].2 = y' := ⟨_, rfl⟩
                          rw [show (sidesV ((px : Int), (py : Int)))[d] = (x', y') from Prod.ext hx' hy'] at hst
                          rw [hx'] at d1
                          rw [hy'] at d2
                          have hNl := hB.lt
                          have HSAME : Hid ((inG (x', y') && !m'.testBit (gp (x', y'))) = false → sidesG (m, t) ((px : Int), (py : Int)) (d + 1) = (m', L)) := fun h => by rw [hst]; unfold sideG; simp only [h]; simp
                          have HMORE : Hid ((inG (x', y') && !m'.testBit (gp (x', y'))) = true → sidesG (m, t) ((px : Int), (py : Int)) (d + 1) = (m' ||| 2 ^ gp (x', y'), L ++ [(x', y')])) := fun h => by rw [hst]; unfold sideG; simp only [h]; simp
                          have HB := Lib.hid hB
                          have HQ := Lib.hid hq
                          have HRD := Lib.hid hrd
                          have HDB := Lib.hid hdb
                          have HLL := Lib.hid hLl
                          have HDE := Lib.hid hDe
                          subst hDe
                          clear hst hsd hq hB hrd hdb hx' hy' hgd hLl hqg
                          have b9 : ∀ (v lo hi : Int) (b : Bool) (w0 : World), b = (decide (lo ≤ v) && decide (v ≤ hi)) → Calls Try.prog 30 #[.int .i64 v, .int .i64 lo, .int .i64 hi] w0 (Ret w0 (.bool b)) := fun v lo hi b w0 h => between_b v lo hi b w0 h
                          have HBT := Lib.hid b9
                          clear b9
                          cases hg1 : (decide (0 ≤ x') && decide (x' ≤ 9)) with
                          | false =>
                            have HN := Lib.hid (HSAME.out (by unfold inG; simp only [hg1, Bool.false_and]))
                            have HG1 := Lib.hid hg1
                            clear hg1 HSAME HMORE
                            go_wp2_with fail
                            obtain ⟨W1, hW1⟩ : ∃ W1, wr.alloc (.cells #[.int .i64 x', .int .i64 y'] 36) = W1 := ⟨_, rfl⟩
                            have hbW : Below wr.heap.size wr W1 := by rw [← hW1]; exact bel_alloc (Below.refl _ _) _
                            have hDW : Blk W1 wr.heap.size 36 #[.int .i64 x', .int .i64 y'] := by rw [← hW1]; exact Blk.new _ _ _
                            have g0 : W1.cell? ⟨wr.heap.size, 0, none⟩ = some (.int .i64 x') := by simpa using hDW.cell 0
                            have g1 : W1.cell? ⟨wr.heap.size, 1, none⟩ = some (.int .i64 y') := by simpa using hDW.cell 1
                            have gl := hDW.lt
                            rw [hW1]
                            have HDW := Lib.hid hDW
                            clear hW1 hDW
                            (refine wp_region_below (by kernel_rfl) (by kernel_rfl) ?_; (repeat (first | go_big_quiet_skip | (refine quietV (v := ?_) (by rfl) rfl (fun w' hbw => ?_) ?_; rotate_left; ((try dsimp only at hbw); have hbc := (bcell hbw).1; have hbf := (bcell hbw).2; go_simp; first | done | with_reducible rfl | (with_reducible exact callsB (v := .bool false) (HBT.out x' 0 9 false _ HG1.out.symm) hbw)); simp only [List.setIfInBounds_toArray, List.set_cons_zero, List.set_cons_succ]))); refine wpQuiet_nil ?_; intro wq hbq)
                            go_wp2_with fail
                            have hbq2 : Below wr.heap.size wr wq := bel_trans hbW hbq
                            exact ⟨⟨d + 1, m', cp, g, off, l, L, by omega, by go_num, rfl, HLL.out, HN.out, ownQ_keep HQ.out hbq2, hgN, HB.out.below hbq2, HRD.out.below hbq2, HDB.out, bel_trans hb hbq2⟩, by simp [intOf]; omega⟩
                          | true =>
                            have HG1 := Lib.hid hg1
                            cases hg2 : (decide (0 ≤ y') && decide (y' ≤ 9)) with
                            | false =>
                              have HN := Lib.hid (HSAME.out (by unfold inG; simp only [hg1, hg2, Bool.false_and, Bool.and_false]))
                              have HG2 := Lib.hid hg2
                              clear hg1 hg2 HSAME HMORE
                              go_wp2_with fail
                              obtain ⟨W1, hW1⟩ : ∃ W1, wr.alloc (.cells #[.int .i64 x', .int .i64 y'] 36) = W1 := ⟨_, rfl⟩
                              have hbW : Below wr.heap.size wr W1 := by rw [← hW1]; exact bel_alloc (Below.refl _ _) _
                              have hDW : Blk W1 wr.heap.size 36 #[.int .i64 x', .int .i64 y'] := by rw [← hW1]; exact Blk.new _ _ _
                              have g0 : W1.cell? ⟨wr.heap.size, 0, none⟩ = some (.int .i64 x') := by simpa using hDW.cell 0
                              have g1 : W1.cell? ⟨wr.heap.size, 1, none⟩ = some (.int .i64 y') := by simpa using hDW.cell 1
                              have gl := hDW.lt
                              rw [hW1]
                              have HDW := Lib.hid hDW
                              clear hW1 hDW
                              (refine wp_region_below (by kernel_rfl) (by kernel_rfl) ?_; (repeat (first | go_big_quiet_skip | (refine quietV (v := ?_) (by rfl) rfl (fun w' hbw => ?_) ?_; rotate_left; ((try dsimp only at hbw); have hbc := (bcell hbw).1; have hbf := (bcell hbw).2; go_simp; first | done | with_reducible rfl | first | (with_reducible exact callsB (v := .bool true) (HBT.out x' 0 9 true _ HG1.out.symm) hbw) | (with_reducible exact callsB (v := .bool false) (HBT.out y' 0 9 false _ HG2.out.symm) hbw)); simp only [List.setIfInBounds_toArray, List.set_cons_zero, List.set_cons_succ]))); refine wpQuiet_nil ?_; intro wq hbq)
                              go_wp2_with fail
                              have hbq2 : Below wr.heap.size wr wq := bel_trans hbW hbq
                              exact ⟨⟨d + 1, m', cp, g, off, l, L, by omega, by go_num, rfl, HLL.out, HN.out, ownQ_keep HQ.out hbq2, hgN, HB.out.below hbq2, HRD.out.below hbq2, HDB.out, bel_trans hb hbq2⟩, by simp [intOf]; omega⟩
                            | true =>
                              have hig : inG (x', y') = true := by unfold inG; simp only [hg1, hg2, Bool.and_true]
                              obtain ⟨p', q', he, hp', hq', hgp', hpq⟩ := inG_at hig
                              injection he with he1 he2
                              subst he1 he2
                              rw [hig, hgp'] at HSAME HMORE
                              have HG2 := Lib.hid hg2
                              have i1 : (0 : Int) ≤ (p' : Int) := by omega
                              have i2 : (p' : Int) < 10 := by omega
                              have i3 : (0 : Int) ≤ (q' : Int) := by omega
                              have i4 : (q' : Int) < 10 := by omega
                              clear hg1 hg2 hig hgp'
                              cases hbit : m'.testBit (q' * 10 + p') with
                              | true =>
                                have HBIT := Lib.hid hbit
                                have HN := Lib.hid (HSAME.out (by rw [hbit]; rfl))
                                clear hbit HSAME HMORE
                                go_wp2_with fail
                                obtain ⟨W1, hW1⟩ : ∃ W1, wr.alloc (.cells #[.int .i64 (p' : Int), .int .i64 (q' : Int)] 36) = W1 := ⟨_, rfl⟩
                                have hbW : Below wr.heap.size wr W1 := by rw [← hW1]; exact bel_alloc (Below.refl _ _) _
                                have hDW : Blk W1 wr.heap.size 36 #[.int .i64 (p' : Int), .int .i64 (q' : Int)] := by rw [← hW1]; exact Blk.new _ _ _
                                have g0 : W1.cell? ⟨wr.heap.size, 0, none⟩ = some (.int .i64 (p' : Int)) := by simpa using hDW.cell 0
                                have g1 : W1.cell? ⟨wr.heap.size, 1, none⟩ = some (.int .i64 (q' : Int)) := by simpa using hDW.cell 1
                                have gl := hDW.lt
                                have hNW := (HB.out.below hbW).lt
                                have z0 := blkG_cell (HB.out.below hbW) hpq
                                rw [HBIT.out] at z0
                                rw [hW1]
                                have HDW := Lib.hid hDW
                                clear hW1 hDW
                                (refine wp_region_below (by kernel_rfl) (by kernel_rfl) ?_; (repeat (first | go_big_quiet_skip | (refine quietV (v := ?_) (by rfl) rfl (fun w' hbw => ?_) ?_; rotate_left; ((try dsimp only at hbw); have hbc := (bcell hbw).1; have hbf := (bcell hbw).2; go_simp; first | done | with_reducible rfl | first | (with_reducible exact callsB (v := .bool true) (HBT.out (p' : Int) 0 9 true _ HG1.out.symm) hbw) | (with_reducible exact callsB (v := .bool true) (HBT.out (q' : Int) 0 9 true _ HG2.out.symm) hbw)); simp only [List.setIfInBounds_toArray, List.set_cons_zero, List.set_cons_succ]))); refine wpQuiet_nil ?_; intro wq hbq)
                                go_wp2_with fail
                                have hbq2 : Below wr.heap.size wr wq := bel_trans hbW hbq
                                exact ⟨⟨d + 1, m', cp, g, off, l, L, by omega, by go_num, rfl, HLL.out, HN.out, ownQ_keep HQ.out hbq2, hgN, HB.out.below hbq2, HRD.out.below hbq2, HDB.out, bel_trans hb hbq2⟩, by simp [intOf]; omega⟩
                              | false =>
                                have HBIT := Lib.hid hbit
                                have HN := Lib.hid (HMORE.out (by rw [hbit]; rfl))
                                clear hbit HSAME HMORE
                                go_wp2_with fail
                                obtain ⟨W1, hW1⟩ : ∃ W1, wr.alloc (.cells #[.int .i64 (p' : Int), .int .i64 (q' : Int)] 36) = W1 := ⟨_, rfl⟩
                                have hbW : Below wr.heap.size wr W1 := by rw [← hW1]; exact bel_alloc (Below.refl _ _) _
                                have hDW : Blk W1 wr.heap.size 36 #[.int .i64 (p' : Int), .int .i64 (q' : Int)] := by rw [← hW1]; exact Blk.new _ _ _
                                have g0 : W1.cell? ⟨wr.heap.size, 0, none⟩ = some (.int .i64 (p' : Int)) := by simpa using hDW.cell 0
                                have g1 : W1.cell? ⟨wr.heap.size, 1, none⟩ = some (.int .i64 (q' : Int)) := by simpa using hDW.cell 1
                                have gl := hDW.lt
                                have hNW := (HB.out.below hbW).lt
                                have z0 := blkG_cell (HB.out.below hbW) hpq
                                rw [HBIT.out] at z0
                                rw [hW1]
                                have HDW := Lib.hid hDW
                                clear hW1 hDW
                                (refine wp_region_below (by kernel_rfl) (by kernel_rfl) ?_; (repeat (first | go_big_quiet_skip | (refine quietV (v := ?_) (by rfl) rfl (fun w' hbw => ?_) ?_; rotate_left; ((try dsimp only at hbw); have hbc := (bcell hbw).1; have hbf := (bcell hbw).2; go_simp; first | done | with_reducible rfl | first | (with_reducible exact callsB (v := .bool true) (HBT.out (p' : Int) 0 9 true _ HG1.out.symm) hbw) | (with_reducible exact callsB (v := .bool true) (HBT.out (q' : Int) 0 9 true _ HG2.out.symm) hbw)); simp only [List.setIfInBounds_toArray, List.set_cons_zero, List.set_cons_succ]))); refine wpQuiet_nil ?_; intro wq hbq)
                                have hbq2 : Below wr.heap.size wr wq := bel_trans hbW hbq
                                have hBq := HB.out.below hbq2
                                have z1 := blkG_cell hBq hpq
                                have f1 := hBq.frozen (q' * 10 + p')
                                have hDK := HDW.out.below hbq
                                have e0 : wq.cell? ⟨wr.heap.size, 0, none⟩ = some (.int .i64 (p' : Int)) := by simpa using hDK.cell 0
                                have e1 : wq.cell? ⟨wr.heap.size, 1, none⟩ = some (.int .i64 (q' : Int)) := by simpa using hDK.cell 1
                                have hkl := hDK.lt
                                have hNq := hBq.lt
                                have hNn : wr.heap.size ≠ N := by omega
                                have HBS := Lib.hid (blkG_set hBq hpq)
                                have HDK := Lib.hid (hDK.far (p := ⟨N, q' * 10 + p', none⟩) hNn (.bool true))
                                have hgr : wq.grownBy (wq.setCell ⟨N, q' * 10 + p', none⟩ (.bool true)) (some N) := grown_set (World.grownBy.refl _ (some N)) rfl _
                                have HQS := Lib.hid (ownQ_kept (ownQ_keep HQ.out hbq2) hgr (fun e => by injection e with e; exact hgN e))
                                have HRS := Lib.hid ((HRD.out.below hbq2).grown hgr (fun b h e => by injection e with e; exact (HDB.out b h).1 e))
                                have hbs : Below w.heap.size w (wq.setCell ⟨N, q' * 10 + p', none⟩ (.bool true)) := bel_set (bel_trans hb hbq2) (by simpa using hNw)
                                clear hBq hDK hgr d1 d2 z0 g0 g1 gl hNW
                                go_wp2_with fail
                                go_region
                                obtain ⟨W2, hW2⟩ : ∃ W2, (wq.setCell ⟨N, q' * 10 + p', none⟩ (.bool true)).drew = W2 := ⟨_, rfl⟩
                                have q0 : W2.cell? ⟨wr.heap.size, 0, none⟩ = some (.int .i64 (p' : Int)) := by rw [← hW2]; simpa using HDK.out.drew.cell 0
                                have q1 : W2.cell? ⟨wr.heap.size, 1, none⟩ = some (.int .i64 (q' : Int)) := by rw [← hW2]; simpa using HDK.out.drew.cell 1
                                have hB2 : Blk W2 N 44 (vG (m' ||| 2 ^ (q' * 10 + p'))).toArray := by rw [← hW2]; exact HBS.out.drew
                                have hQ2 : World.ownsQ W2 w.heap.size 36 2 g off l cp (vC L) := by rw [← hW2]; exact HQS.out
                                have hR2 : Rd W2 (some ⟨gD, oD, none⟩) (vC (sidesV ((px : Int), (py : Int)))) := by rw [← hW2]; exact HRS.out.drew
                                have hb02 : Below w.heap.size w W2 := by rw [← hW2]; exact bel_drew hbs
                                have HB2 := Lib.hid hB2
                                have HQ2 := Lib.hid hQ2
                                have HR2 := Lib.hid hR2
                                rw [hW2]
                                have hwz := hb02.size
                                have hNW2 := hB2.lt
                                have hgW2 := (ownQ_lt hQ2).2
                                have hgDW : gD < W2.heap.size := by
                                  have := hbq2.size
                                  have h2 : W2.heap.size = wq.heap.size := by rw [← hW2]; simp [World.drew]
                                  omega
                                clear hW2 z1 f1 e0 e1 hkl hNq hNn hbs HBS HDK HQS HRS hB2 hQ2 hR2
                                go_wp2_with (at_builtin; go_must (refine app_QC _ rfl _ _ rfl w.heap.size g off l cp _ rfl (ownQ_keep HQ2.out (bel_alloc (Below.refl _ _) _)) W2.heap.size _ _ [((p' : Int), (q' : Int))] rfl (newC_cells _ _ _ _) rfl (by omega) (by simp; omega) ?_); intro g' off' c' w8 hq8 hg8 hg'; have HQ8 := Lib.hid hq8; have HG8 := Lib.hid hg8; have HGG := Lib.hid hg'; clear hq8 hg8 hg')
                                have hgN' : g' ≠ N := by
                                  rcases HGG.out with e | e
                                  · rw [e]; exact hgN
                                  · simp at e; omega
                                refine ⟨⟨d + 1, _, c', g', off', l + 1, L ++ [((p' : Int), (q' : Int))], by omega, by go_num, rfl, by rw [List.length_append, HLL.out]; rfl, HN.out, HQ8.out, hgN', (HB2.out.alloc _).grown HG8.out (fun e => hgN (by injection e with e; exact e.symm)), (HR2.out.alloc _).grown HG8.out (fun b h e => by injection e with e; exact (HDB.out b h).2 e), fun b h => ?_, bel_grown (row := some g) (bel_alloc hb02 _) HG8.out (fun k e => by injection e with e; have := (ownQ_lt HQ2.out).1; omega)⟩, by simp [intOf]; omega⟩
                                have h0 := HDB.out b h
                                refine ⟨h0.1, ?_⟩
                                rcases HGG.out with e | e
                                · rw [e]; exact h0.2
                                · simp at e
                                  simp only [ob, Option.map_some, Option.some.injEq] at h
                                  omega
                        · obtain rfl : d = 4 := by omega
                          have hd1 : ¬ ((4 : Nat) : Int) < 4 := by omega
                          have hfl2 : flood (M0 ||| 2 ^ (y * 10 + x), [((x : Int), (y : Int))]) (i + 1) = (m', L) := HSTEP.out.trans hsd
                          have HFL2 := Lib.hid hfl2
                          have HUW2 : Hid (2 * unW wr N + l ≤ 2 * un m + t.length) := by show _ ≤ _; rw [unW_of hB, ← hLl]; exact hsu
                          have HB := Lib.hid hB
                          have HQ := Lib.hid hq
                          have HLL := Lib.hid hLl
                          clear hfl2 hsd hq hB hrd hdb hqg hsu hLl
                          go_wp2_with fail
                          refine ⟨⟨i + 1, m', cp, g, off, l, L, rfl, HLL.out, HFL2.out, HQ.out, hgN, HB.out, hb⟩, ?_⟩
                          have h1 := HUW.out
                          have h2 := HUW2.out
                          have h3 := HTL.out
                          simp only [lenQ]
                          simp only [List.length_cons] at h1
                          omega
              · have hNl := hB.lt
                have z0 := blkG_cell hB hin
                rw [full_bit hin] at z0
                have HB := Lib.hid hB
                clear hB
                go_wp2_with fail
                exact ⟨⟨x + 1, by omega, by go_num, .inr ⟨by omega, rfl, HB.out⟩, hb⟩, by simp [intOf]; omega⟩
            · obtain rfl : x = 10 := by omega
              have hx1 : ¬ ((10 : Nat) : Int) < 10 := by omega
              rcases hcase with ⟨_, h2, _⟩ | ⟨_, rfl, hB⟩
              · exact absurd h2 (by omega)
              · have HB := Lib.hid hB
                clear hB
                go_wp2_with fail
                exact ⟨⟨y + 1, by omega, by go_num, .inr ⟨by omega, rfl, HB.out⟩, hb⟩, by simp [intOf]; omega⟩
        · obtain rfl : y = 10 := by omega
          have hy1 : ¬ ((10 : Nat) : Int) < 10 := by omega
          rcases hcase with ⟨h1, _⟩ | ⟨_, rfl, _⟩
          · exact absurd h1 (by omega)
          · go_wp2_with fail
            go_ret
            exact ⟨rfl, hb⟩
end Go.Proofs.Yteelmhmdnljjnaa
