/- The faces of a cube that rolls over a shape: the reference. -/
import Derived.Test.YtemmbpmgfjodnaaNetM
import Derived.Test.YtemmbpmgfjodnaaHdrs
import Derived.Test.YtemmbpmgfjodnaaTree
import Derived.Test.YtemmbpmgfjodnaaShape
import Derived.Test.YtemmbpmgfjodnaaQtail
import Derived.Outline
import Derived.WalkLawsBesides
import Derived.WalkSpells
import Derived.BigQuiet
import Derived.Deep.QuietTactic
import Derived.Deep.RegionHeld3
import Derived.Deep.RegionWith
import Derived.Deep.DeepCutAuto
import Derived.Deep.CutBlock
import Derived.Deep.DrawnRows
namespace Go.Proofs.Ytemmbpmgfjodnaa
open Go.RowKit
set_option linter.unusedVariables false
attribute [local go_sem ↓] Go.wp_at_zero Go.wp_at_succ

theorem own_farset {w : World} {base e size n c : Nat} {A : Option Addr} {vs : List Value} (h : w.ownsRow base e size (.slice A n c) n vs) {g0 : Nat} (hA : ∀ g, ob A = some g → g ≠ g0) (k : Nat) (v : Value) : (w.setCell ⟨g0, k, none⟩ v).ownsRow base e size (.slice A n c) n vs :=
  own_set h hA v
theorem RowsH.far {w : World} {hs : List H} {F : List (List Int)} (h : RowsH w hs F) {g0 : Nat} (ha : away hs g0) (k : Nat) (v : Value) : RowsH (w.setCell ⟨g0, k, none⟩ v) hs F :=
  ⟨h.len, fun i a b => ⟨(h.at_ i a b).1, (h.at_ i a b).2.1, (h.at_ i a b).2.2.far (fun g hg e => ha _ (List.getElem_mem a) (by rw [hg, e])) v⟩⟩
theorem blk_two {w w' : World} {g : Nat} {t : TypeId} {x y u v : Value} (h : Blk w g t #[x, y]) (hb : Ext ((w.setCell ⟨g, 0, none⟩ u).setCell ⟨g, 1, none⟩ v) w') : Blk w' g t #[u, v] := by
  have h2 := (h.set_ 0 u).set_ 1 v
  have h3 : Blk ((w.setCell ⟨g, 0, none⟩ u).setCell ⟨g, 1, none⟩ v) g t #[u, v] := by simpa using h2
  exact h3.below hb
structure Two0 (base g0 : Nat) (t1 s1 : Nat) (vs : List Value) (A : Option Addr) (n c : Nat) (B : Option Addr) (c2 : Nat) (hs : List H) (F : List (List Int)) (xs : List Int) (w : World) : Prop where
  two : Two base g0 t1 s1 vs A n c B c2 hs F (vI xs).toArray w
  aw : away hs g0
theorem Two0.below {base g0 t1 s1 : Nat} {vs : List Value} {A : Option Addr} {n c : Nat} {B : Option Addr} {c2 : Nat} {hs : List H} {F : List (List Int)} {xs : List Int} {w w' : World}
    (h : Two0 base g0 t1 s1 vs A n c B c2 hs F xs w) (hb : Below w.heap.size w w') : Two0 base g0 t1 s1 vs A n c B c2 hs F xs w' := ⟨h.two.below hb, h.aw⟩
theorem Two0.set_ {base g0 t1 s1 : Nat} {vs : List Value} {A : Option Addr} {n c : Nat} {B : Option Addr} {c2 : Nat} {hs : List H} {F : List (List Int)} {xs : List Int} {w : World}
    (h : Two0 base g0 t1 s1 vs A n c B c2 hs F xs w) (k : Nat) (v : Int) : Two0 base g0 t1 s1 vs A n c B c2 hs F (xs.set k v) (w.setCell ⟨g0, k, none⟩ (.int .i64 v)) := by
  have hA : ∀ g, ob A = some g → g ≠ g0 := fun g e => (h.two.sepA g e).2.2
  have hB : ∀ g, ob B = some g → g ≠ g0 := fun g e => (h.two.sepB g e).2
  exact ⟨⟨own_farset h.two.own1 hA k _, own_farset h.two.own2 hB k _, h.two.rows.far h.aw k _, blkI_set h.two.beside k v, h.two.sepA, h.two.sepB⟩, h.aw⟩
theorem Two0.push {base g0 t1 s1 : Nat} {vs vs' : List Value} {A A' : Option Addr} {n c c' : Nat} {B B' : Option Addr} {c2 c2' : Nat} {hs : List H} {F : List (List Int)} {xs : List Int} {w1 w2 w2' w3 : World}
    {D : Option Addr} {cf : Nat} {f : List Int} {o1 : Obj}
    (h : Two0 base g0 t1 s1 vs A n c B c2 hs F xs w1) (hf : Rd w1 D (vI f)) {nf : Nat} (hn : nf = f.length) (hp : 0 < f.length) (hfd : ∀ g, ob D = some g → ob A ≠ some g ∧ ob B ≠ some g ∧ g ≠ g0)
    (ho1 : w2.ownsRow base t1 s1 (.slice A' (n + 1) c') (n + 1) vs') (hg1 : (w1.alloc o1).grownBy w2 (ob A)) (ha1 : ob A' = ob A ∨ ob A' = some (w1.alloc o1).heap.size)
    (hm : Below w2.heap.size w2 w2')
    (ho2 : w3.ownsRow base 44 1 (.slice B' (n + 1) c2') (n + 1) (vS (hs ++ [(D, nf, cf)]))) (hg2 : w2'.grownBy w3 (ob B)) (ha2 : ob B' = ob B ∨ ob B' = some w2'.heap.size) :
    Two0 base g0 t1 s1 vs' A' (n + 1) c' B' c2' (hs ++ [(D, nf, cf)]) (F ++ [f]) xs w3 :=
  ⟨h.two.push hf hn hp (fun g e => ⟨(hfd g e).1, (hfd g e).2.1⟩) ho1 hg1 ha1 hm ho2 hg2 ha2, away_push h.aw (fun e => (hfd g0 e).2.2 rfl)⟩
theorem Two0.init (w : World) (base : Nat) (hb : base ≤ w.heap.size) (zs : List Int) (x y : Int) :
    Two0 base w.heap.size 60 2 (vC [(x, y)]) (some ⟨w.heap.size + 1, 0, none⟩) 1 1 (some ⟨w.heap.size + 1 + 1 + 1, 0, none⟩) 1 [(some ⟨w.heap.size + 1 + 1, 0, none⟩, 6, 6)] [id6] zs
      ((((w.alloc (.cells (vI zs).toArray 3)).alloc (.cells #[.int .i64 x, .int .i64 y] 60)).alloc (.cells #[.int .i64 0, .int .i64 1, .int .i64 2, .int .i64 3, .int .i64 4, .int .i64 5] 3)).alloc
        (.cells #[.slice (some ⟨w.heap.size + 1 + 1, 0, none⟩) 6 6] 44)) := by
  generalize hW1 : w.alloc (.cells (vI zs).toArray 3) = W1
  have e1 : W1.heap.size = w.heap.size + 1 := by rw [← hW1]; simp
  have k1 : Blk W1 w.heap.size 3 (vI zs).toArray := by rw [← hW1]; exact Blk.new _ _ _
  have oC := own_newC W1 60 x y (base := base) (by omega)
  rw [e1] at oC
  have k2 := k1.alloc (.cells #[.int .i64 x, .int .i64 y] 60)
  generalize hW2 : W1.alloc (.cells #[.int .i64 x, .int .i64 y] 60) = W2 at oC k2
  have e2 : W2.heap.size = w.heap.size + 1 + 1 := by rw [← hW2]; simp [e1]
  have r3 : Rd (W2.alloc (.cells #[.int .i64 0, .int .i64 1, .int .i64 2, .int .i64 3, .int .i64 4, .int .i64 5] 3)) (some ⟨w.heap.size + 1 + 1, 0, none⟩) (vI id6) := by
    rw [← e2]; exact rd_new W2 3 #[.int .i64 0, .int .i64 1, .int .i64 2, .int .i64 3, .int .i64 4, .int .i64 5]
  have oC3 := oC.alloc (.cells #[.int .i64 0, .int .i64 1, .int .i64 2, .int .i64 3, .int .i64 4, .int .i64 5] 3)
  have k3 := k2.alloc (.cells #[.int .i64 0, .int .i64 1, .int .i64 2, .int .i64 3, .int .i64 4, .int .i64 5] 3)
  generalize hW3 : W2.alloc (.cells #[.int .i64 0, .int .i64 1, .int .i64 2, .int .i64 3, .int .i64 4, .int .i64 5] 3) = W3 at r3 oC3 k3
  have e3 : W3.heap.size = w.heap.size + 1 + 1 + 1 := by rw [← hW3]; simp [e2]
  have oH := own_new W3 44 1 1 #[.slice (some ⟨w.heap.size + 1 + 1, 0, none⟩) 6 6] rfl (by simp [maxLen]) (base := base) (by omega)
  rw [e3] at oH
  refine ⟨⟨oC3.alloc _, oH, ?_, k3.alloc _, fun g hg => ?_, fun g hg => ?_⟩, ?_⟩
  · refine ⟨rfl, fun k a b => ?_⟩
    have e : k = 0 := by have : k < 1 := a; omega
    subst e
    exact ⟨rfl, by simp [id6], r3.alloc _⟩
  · simp only [ob, Option.map_some, Option.some.injEq] at hg
    subst hg
    refine ⟨fun e => (by simp only [ob, Option.map_some, Option.some.injEq] at e; omega), fun h hh => ?_, by omega⟩
    simp only [List.mem_singleton] at hh
    rw [hh]
    simp only [ob, Option.map_some, ne_eq, Option.some.injEq]
    omega
  · simp only [ob, Option.map_some, Option.some.injEq] at hg
    subst hg
    refine ⟨fun h hh => ?_, by omega⟩
    simp only [List.mem_singleton] at hh
    rw [hh]
    simp only [ob, Option.map_some, ne_eq, Option.some.injEq]
    omega
  · intro h hh
    simp only [List.mem_singleton] at hh
    rw [hh]
    simp only [ob, Option.map_some, ne_eq, Option.some.injEq]
    omega
theorem mid_cell {w : World} {g : Nat} {t : TypeId} {pre post : List Int} {a : Int} (h : Blk w g t (vI (pre ++ a :: post)).toArray) {k : Nat} (hk : pre.length = k) : w.cell? ⟨g, k, none⟩ = some (.int .i64 a) := by
  subst hk
  rw [h.cell]
  simp [vI]
theorem mid_set {pre post : List Int} {a : Int} {k : Nat} (hk : pre.length = k) (v : Int) : (pre ++ a :: post).set k v = pre ++ v :: post := by
  subst hk
  simp
theorem faces_no {xs : List C} (h : isConn xs = false) : faces xs = [] := by unfold faces; rw [h]; rfl
theorem faces_yes {xs : List C} (h : isConn xs = true) : faces xs = xs.map (face0 (facesL xs)) := by unfold faces; rw [h]; rfl
set_option maxRecDepth 100000 in
set_option maxHeartbeats 3200000 in
theorem FacesOf_s (A : Option Addr) (n c : Nat) (xs : List C) (w : World) (hr : Rd w A (vC xs)) (hl : xs.length = n) (hn : n ≤ 1099511627776) :
    Calls Try.prog 35 #[.slice A n c] w (RetS2 w 3 1 (vI (faces xs)) (.bool (isConn xs))) := by
  have HL := Lib.hid hl
  cases hc : isConn xs with
  | false =>
    have HV := Lib.hid (faces_no hc)
    have HC := Lib.hid hc
    clear hc hl
    go_enter Try.func35, Try.ntmps35
    go_wp2_with (go_at_call 68; refine (IsConnectedShape_s _ _ _ xs _ hr HL.out (by omega)).mono ?_; rw [HC.out]; rintro e w1 ⟨rfl, hb1⟩)
    go_ret2
    exact ⟨_, 0, 0, rfl, by rw [HV.out]; exact own_new _ _ 1 0 #[] rfl (by simp [maxLen]) (by have := hb1.size; omega), (by (repeat (first | with_reducible exact Below.refl _ _ | with_reducible assumption | with_reducible apply bel_alloc | with_reducible apply bel_drew | with_reducible apply bel_drewN | ((with_reducible refine bel_set ?_ ?_); rotate_left; (simp <;> omega)) | (with_reducible refine bel_trans ?_ (by with_reducible assumption)))))⟩
  | true =>
    have HV := Lib.hid (faces_yes hc)
    have hs := conn_shape hc
    have hlen := shape_len hs
    have hsm := shape_small hs
    have hn8 : n ≤ 8 := by omega
    have hn1 : 1 ≤ n := by omega
    have hnp : (0 : Int) < (n : Int) := by omega
    have h0x : 0 < xs.length := by omega
    have hs0 : xs[0] = s0 xs := by simp [s0, List.getD_eq_getElem?_getD, h0x]
    have HGD := fun k => seqF_good h0x k
    have HG := Lib.hid HGD
    have HGL : Hid (∀ k, (seqF xs k).length ≤ n) := fun k => by have := seqF_len h0x k; omega
    have HEND : Hid (∀ i, (seqF xs (4 * i)).length ≤ i → seqF xs (4 * i) = facesL xs) := fun i h => seqF_end h0x h
    have HSM := Lib.hid hsm
    have HC := Lib.hid hc
    have HS0 := Lib.hid hs0
    have hmk : ∀ wq, (Instr.makeSlice 44 (.int .i64 (n : Int)) (.int .i64 (n : Int))).run Try.prog wq = _ := fun wq => mk_I wq n (by omega)
    clear hc hs hlen hsm hl hn hs0 HGD
    go_enter Try.func35, Try.ntmps35
    go_wp2_with fail
    refine (IsConnectedShape_s _ _ _ xs _ hr HL.out (by omega)).mono ?_
    rw [HC.out]
    rintro e w1 ⟨rfl, hb1⟩
    obtain ⟨ga, offa, rfl, hga, z1, z2⟩ := RdC.at_ (hr.below hb1) h0x
    rw [HS0.out] at z1 z2
    simp only [Nat.zero_mul, Nat.add_zero] at z1 z2
    obtain ⟨⟨zx, zy⟩, hz⟩ : ∃ p, s0 xs = p := ⟨_, rfl⟩
    rw [hz] at z1 z2
    have HZ := Lib.hid hz
    have hbs := hb1.size
    clear hz
    go_wp2_with fail
    have hinit := Two0.init w1 w.heap.size hbs (zeI n) zx zy
    rw [← HZ.out] at hinit
    have HI := Lib.hid hinit
    clear hinit
    generalize hg0 : w1.heap.size = g0 at HI
    have hg0b : w.heap.size ≤ g0 := by omega
    have HG0 := Lib.hid hg0
    clear hg0
    go_loopw [5, 6, 7] (fun e5 e6 e7 wr => ∃ (i m cA cB : Nat) (A' B' : Option Addr) (hs : List H), i ≤ m ∧ m ≤ n ∧ e5 = .slice A' m cA ∧ e6 = .slice B' m cB ∧ e7 = .int .i64 i ∧ m = (seqF xs (4 * i)).length ∧ Two0 w.heap.size g0 60 2 (vC (cs (seqF xs (4 * i)))) A' m cA B' cB hs ((seqF xs (4 * i)).map (·.2)) (zeI n) wr ∧ Below w.heap.size w wr) (fun _ _ e7 _ => n - (intOf e7).toNat)
    case atStart => exact ⟨0, 1, 1, 1, _, _, _, by omega, by omega, rfl, rfl, rfl, rfl, HI.out, (by (repeat (first | with_reducible exact Below.refl _ _ | with_reducible assumption | with_reducible apply bel_alloc | with_reducible apply bel_drew | with_reducible apply bel_drewN | ((with_reducible refine bel_set ?_ ?_); rotate_left; (simp <;> omega)) | (with_reducible refine bel_trans ?_ (by with_reducible assumption)))))⟩
    case round =>
      clear HI HG0 HZ hb1 z1 z2 hga hbs hmk
      obtain ⟨i, m, cA, cB, A', B', hs, him, hmn, rfl, rfl, rfl, hm, hT, hb⟩ := hrel
      by_cases hlt : i < m
      · have hlt2 : (i : Int) < (m : Int) := by omega
        have HM := Lib.hid hm
        have HT := Lib.hid hT
        clear hm hT
        go_wp2_with fail
        go_loopw [5, 6, 8] (fun e5 e6 e8 wr => ∃ (d m cA cB : Nat) (A' B' : Option Addr) (hs : List H), d ≤ 4 ∧ i < m ∧ m ≤ n ∧ e5 = .slice A' m cA ∧ e6 = .slice B' m cB ∧ e8 = .int .i64 d ∧ m = (seqF xs (4 * i + d)).length ∧ Two0 w.heap.size g0 60 2 (vC (cs (seqF xs (4 * i + d)))) A' m cA B' cB hs ((seqF xs (4 * i + d)).map (·.2)) (zeI n) wr ∧ Below w.heap.size w wr) (fun _ _ e8 _ => 4 - (intOf e8).toNat)
        case atStart => exact ⟨0, m, cA, cB, A', B', hs, by omega, hlt, hmn, rfl, rfl, rfl, HM.out, HT.out, hb⟩
        case round =>
          clear HM HT hb hlt him hmn hlt2
          obtain ⟨d, m, cA, cB, A', B', hs, hd4, him, hmn, rfl, rfl, rfl, hm, hT, hb⟩ := hrel
          by_cases hd : d < 4
          · have hsx : seqF xs (4 * i + d + 1) = stepF xs (seqF xs (4 * i + d)) i d := by
              show stepF xs (seqF xs (4 * i + d)) ((4 * i + d) / 4) ((4 * i + d) % 4) = _
              rw [show (4 * i + d) / 4 = i by omega, show (4 * i + d) % 4 = d by omega]
            have hgd := HG.out (4 * i + d)
            have hle := HGL.out (4 * i + d + 1)
            rw [hsx] at hle
            generalize seqF xs (4 * i + d) = L at hsx hm hT hgd hle
            have hiL : i < (cs L).length := by rw [cs_len]; omega
            obtain ⟨gs, offs, hAs, hgs, c1, c2⟩ := RdC.at_ (Rd.of_own hT.two.own1) hiL
            subst hAs
            have hcx : (cs L)[i] = (L.getD i p0).1 := by rw [List.getD_eq_getElem?_getD, List.getElem?_eq_getElem (by omega)]; simp [cs]
            rw [hcx] at c1 c2
            have hsm0 := HSM.out (L.getD i p0).1 (hgd.sub _ (by rw [← hcx]; exact List.getElem_mem hiL))
            have hne := hT.two.own1
            generalize hq : L.getD i p0 = q at c1 c2 hsm0
            obtain ⟨⟨x, y⟩, f⟩ := q
            simp only at c1 c2 hsm0
            obtain ⟨⟨mx, my⟩, hmxy⟩ : ∃ p, mv (x, y) d = p := ⟨_, rfl⟩
            have HQ := Lib.hid hq
            have HX := Lib.hid hmxy
            have HM := Lib.hid hm
            have HT := Lib.hid hT
            have HSX := Lib.hid hsx
            have HGD := Lib.hid hgd
            have hi0 : (0 : Int) ≤ (i : Int) := by omega
            have hi1 : (i : Int) < (m : Int) := by omega
            obtain ⟨⟨sx1, sx2⟩, ⟨sy1, sy2⟩⟩ := hsm0
            simp only at sx1 sx2 sy1 sy2
            clear hq hmxy hm hT hsx hgd hcx hne
            go_upto_region 12 with fail
            go_cut [9] (fun p wx => ∃ pb, p = .pointer (some ⟨pb, 0, none⟩) ∧ Blk wx pb 60 #[.int .i64 mx, .int .i64 my] ∧ wr.heap.size ≤ pb ∧ Below wr.heap.size wr wx)
            case first =>
              have v0 : IntKind.i64.wrap 0 = 0 := IntWalk.i64_in _ (by omega)
              have v1 : IntKind.i64.wrap 1 = 1 := IntWalk.i64_in _ (by omega)
              have v2 : IntKind.i64.wrap 2 = 2 := IntWalk.i64_in _ (by omega)
              have v3 : IntKind.i64.wrap (-1) = -1 := IntWalk.i64_in _ (by omega)
              have v4 : IntKind.i64.wrap (-2) = -2 := IntWalk.i64_in _ (by omega)
              have vx0 : IntKind.i64.wrap x = x := IntWalk.i64_in _ (by omega)
              have vx1 : IntKind.i64.wrap (x + 1) = x + 1 := IntWalk.i64_in _ (by omega)
              have vx2 : IntKind.i64.wrap (x + -1) = x - 1 := (IntWalk.i64_in _ (by omega)).trans (by omega)
              have vy0 : IntKind.i64.wrap y = y := IntWalk.i64_in _ (by omega)
              have vy1 : IntKind.i64.wrap (y + 1) = y + 1 := IntWalk.i64_in _ (by omega)
              have vy2 : IntKind.i64.wrap (y + -1) = y - 1 := (IntWalk.i64_in _ (by omega)).trans (by omega)
              rcases (by omega : d = 0 ∨ d = 1 ∨ d = 2 ∨ d = 3) with hd0 | hd0 | hd0 | hd0
              all_goals
                subst hd0
                have hx := HX.out
                simp only [mv, Prod.mk.injEq] at hx
                obtain ⟨rfl, rfl⟩ := hx
                (refine wp_region_tailN (C := ExC wr) 19 (by kernel_rfl) (by kernel_rfl) (ExC.drawn _) (fun _ _ h k => ExC.ext h k) ?_; simp only [List.take_succ_cons, List.take_zero, List.drop_succ_cons, List.drop_zero]; (repeat (first | (refine headSkip (by rfl) rfl ?_; simp only [List.setIfInBounds_toArray, List.set_cons_zero, List.set_cons_succ]) | (refine headV (v := ?_) (by rfl) rfl (fun w' hcw => ?_) ?_; rotate_left; ((try dsimp only at hcw); have hbc := hcw.cells; go_simp; first | done | with_reducible rfl | fail); simp only [List.setIfInBounds_toArray, List.set_cons_zero, List.set_cons_succ]))); unfold wpHead)
                (refine tailK (by rfl) (fun w3 hc3 he3 K hK => ?_); go_simp; refine hK _ _ (hc3.ext (bel_alloc (Below.refl _ _) _)) ?_; clear hK K)
                have k3 := Blk.new w3 60 #[.int .i64 0, .int .i64 0]
                have hz3 := he3.size
                refine tailK (by rfl) (fun w4 hc4 he4 K hK => ?_)
                have k4 := k3.below he4
                have q1 : w4.cell? ⟨w3.heap.size, 0, none⟩ = some (.int .i64 0) := by simpa using k4.cell 0
                have q2 : w4.cell? ⟨w3.heap.size, 1, none⟩ = some (.int .i64 0) := by simpa using k4.cell 1
                have f1 := k4.frozen 0
                have f2 := k4.frozen 1
                go_simp
                refine hK _ _ (bel_set (bel_set hc4 (by simp; omega)) (by simp; omega)) ?_
                clear hK K
                (refine fun w5 hc5 he5 => NoPanic.normal ?_)
                go_wp2_with fail
                go_meet
                exact ⟨_, rfl, blk_two k4 he5, hz3, hc5⟩
            case rest =>
              obtain ⟨pb, rfl, hkb, hpb, hbx⟩ := hcut
              have b1 := hkb.cell 0
              have b2 := hkb.cell 1
              simp only [List.getElem?_toArray, List.getElem?_cons_zero, List.getElem?_cons_succ] at b1 b2
              have hpl := hkb.lt
              have hT2 := Lib.hid (HT.out.below hbx)
              have hrw := hr.below (bel_trans hb hbx)
              have hb2 := bel_trans hb hbx
              have rs := Rd.of_own hT2.out.two.own1
              have HLC : Hid ((cs L).length = m) := by show (cs L).length = m; rw [cs_len]; exact HM.out.symm
              clear c1 c2 HT hgs
              have HND : Hid (newD xs L (mx, my) = (hasC xs mx my && !hasC (cs L) mx my)) := rfl
              have HOLD : Hid (newD xs L (mx, my) = false → seqF xs (4 * i + (d + 1)) = L) := fun h => by
                show seqF xs (4 * i + d + 1) = L
                rw [HSX.out]; unfold stepF; rw [HQ.out]; simp only [HX.out, h]; simp
              cases h1 : hasC xs mx my with
              | false =>
                have HN := Lib.hid (HOLD.out (by rw [HND.out, h1]; rfl))
                have H1 := Lib.hid h1
                clear h1 HOLD HND
                go_wp2_with fail
                refine (HasCell_s _ _ _ xs mx my _ hrw HL.out (by omega)).mono ?_
                rw [H1.out]
                rintro e w2 ⟨rfl, hb3⟩
                go_wp2_with fail
                exact ⟨⟨d + 1, m, cA, cB, _, B', hs, by omega, him, hmn, rfl, rfl, by go_num, by rw [HN.out]; exact HM.out, by rw [HN.out]; exact hT2.out.below hb3, (by (repeat (first | with_reducible exact Below.refl _ _ | with_reducible assumption | with_reducible apply bel_alloc | with_reducible apply bel_drew | with_reducible apply bel_drewN | ((with_reducible refine bel_set ?_ ?_); rotate_left; (simp <;> omega)) | (with_reducible refine bel_trans ?_ (by with_reducible assumption)))))⟩, by simp [intOf]; omega⟩
              | true =>
                cases h2 : hasC (cs L) mx my with
                | true =>
                  have HN := Lib.hid (HOLD.out (by rw [HND.out, h1, h2]; rfl))
                  have H1 := Lib.hid h1
                  have H2 := Lib.hid h2
                  clear h1 h2 HOLD HND
                  go_wp2_with fail
                  refine (HasCell_s _ _ _ xs mx my _ hrw HL.out (by omega)).mono ?_
                  rw [H1.out]
                  rintro e w2 ⟨rfl, hb3⟩
                  have y1 := keep_below hb3 b1
                  have y2 := keep_below hb3 b2
                  go_wp2_with fail
                  refine (HasCell_s _ _ _ (cs L) mx my _ (rs.below hb3) HLC.out (by omega)).mono ?_
                  rw [H2.out]
                  rintro e w3 ⟨rfl, hb4⟩
                  go_wp2_with fail
                  exact ⟨⟨d + 1, m, cA, cB, _, B', hs, by omega, him, hmn, rfl, rfl, by go_num, by rw [HN.out]; exact HM.out, by rw [HN.out]; exact (hT2.out.below hb3).below hb4, (by (repeat (first | with_reducible exact Below.refl _ _ | with_reducible assumption | with_reducible apply bel_alloc | with_reducible apply bel_drew | with_reducible apply bel_drewN | ((with_reducible refine bel_set ?_ ?_); rotate_left; (simp <;> omega)) | (with_reducible refine bel_trans ?_ (by with_reducible assumption)))))⟩, by simp [intOf]; omega⟩
                | false =>
                  have hil : i < L.length := by have := HM.out; omega
                  have HN : Hid (seqF xs (4 * i + (d + 1)) = L ++ [((mx, my), rollL f d)]) := by
                    show seqF xs (4 * i + d + 1) = _
                    rw [HSX.out]; unfold stepF; rw [HQ.out, if_pos ⟨hil, by simp only [HX.out, HND.out, h1, h2]; rfl⟩]; simp only [HX.out]
                  have hle2 : m + 1 ≤ n := by
                    have h := HGL.out (4 * i + (d + 1))
                    rw [HN.out, List.length_append, List.length_singleton] at h
                    have := HM.out; omega
                  have H1 := Lib.hid h1
                  have H2 := Lib.hid h2
                  clear h1 h2 HOLD HND
                  go_wp2_with fail
                  refine (HasCell_s _ _ _ xs mx my _ hrw HL.out (by omega)).mono ?_
                  rw [H1.out]
                  rintro e w2 ⟨rfl, hb3⟩
                  have y1 := keep_below hb3 b1
                  have y2 := keep_below hb3 b2
                  go_wp2_with fail
                  refine (HasCell_s _ _ _ (cs L) mx my _ (rs.below hb3) HLC.out (by omega)).mono ?_
                  rw [H2.out]
                  rintro e w3 ⟨rfl, hb4⟩
                  have y3 := keep_below hb4 y1
                  have y4 := keep_below hb4 y2
                  have hT4 := (hT2.out.below hb3).below hb4
                  have hro := hT4.two.rows
                  have hhl : i < hs.length := by rw [hro.len]; simpa using hil
                  obtain ⟨gB, offB, rfl, hgB, l1⟩ := RdS.at_ (Rd.of_own hT4.two.own2) hhl
                  have hrow := hro.at_ i hhl (by simpa using hil)
                  have hfe : (L.map (·.2))[i]'(by simpa using hil) = f := by
                    have := HQ.out
                    rw [List.getD_eq_getElem?_getD, List.getElem?_eq_getElem hil] at this
                    simp only [Option.getD_some] at this
                    simp [this]
                  rw [hfe] at hrow
                  have hf6 : f.length = 6 := by
                    have := HGD.out.six _ (getD_mem hil)
                    rw [HQ.out] at this
                    exact this
                  obtain ⟨⟨D0, n0, c0⟩, hh⟩ : ∃ h, hs[i] = h := ⟨_, rfl⟩
                  rw [hh] at l1 hrow
                  obtain ⟨hr6, _, hrd⟩ := hrow
                  simp only at l1 hr6 hrd
                  rw [hf6] at hr6
                  subst hr6
                  have HF6 := Lib.hid hf6
                  have hok : Hid (rollOk f (d : Int) = true) := by show rollOk f (d : Int) = true; unfold rollOk; rw [hf6]; simp; omega
                  have hrv : Hid (rollV f (d : Int) = rollL f d) := by show rollV f (d : Int) = _; unfold rollV; rw [hok.out]; simp
                  have HT4 := Lib.hid hT4
                  clear hT4 hro hh hfe hf6 hT2 rs b1 b2 y1 y2
                  go_wp2_with fail
                  refine (RollFaces_s D0 6 c0 f d _ hrd HF6.out (by omega)).mono ?_
                  rw [hrv.out, hok.out]
                  rintro e w4 ⟨D, mf, cf, rfl, hof, hb5⟩
                  have hm6 : 6 = mf := by have := own_len hof; rw [vI_length, rollL_len] at this; omega
                  subst hm6
                  have u1 := keep_below hb5 y3
                  have u2 := keep_below hb5 y4
                  have hT5 := Lib.hid (HT4.out.below hb5)
                  have rD := Rd.of_own hof
                  have hDlt := own_lt hof
                  have hAlt := own_lt HT4.out.two.own1
                  have hBlt := own_lt HT4.out.two.own2
                  have hg0lt := HT4.out.two.beside.lt
                  have hb04 : Below w.heap.size w w4 := bel_trans (bel_trans (bel_trans hb2 hb3) hb4) hb5
                  have hz04 := hb04.size
                  clear hof y3 y4 hrd
                  go_upto_region 16 with (at_builtin; go_must (refine app_C _ rfl _ _ rfl w.heap.size _ _ _ (cs L) rfl (hT5.out.two.own1.alloc _) _ _ _ [(mx, my)] rfl (rd_newC _ _ _ _) rfl (by omega) (by simp; omega) ?_); intro A2 c2 w5 hoA hgA hatA; have HOA := Lib.hid hoA; have HGA := Lib.hid hgA; have HATA := Lib.hid hatA; clear hoA hgA hatA)
                  have hb45 : Below w.heap.size w w5 := bel_app (bel_alloc hb04 _) HGA.out (fun g h => (hAlt g h).1)
                  have hz45 := hb45.size
                  have hoB5 : w5.ownsRow w.heap.size 44 1 (.slice (some ⟨gB, offB, none⟩) m cB) m (vS hs) := ((hT5.out.two.own2).alloc _).kept HGA.out (by
                    rw [ownBlock_slice]
                    right
                    intro e
                    exact (hT5.out.two.sepA gB e.symm).1 rfl)
                  have HOB := Lib.hid hoB5
                  clear hoB5
                  go_wp2_with (at_builtin; go_must (refine app_S _ rfl _ _ rfl w.heap.size _ _ _ hs rfl (HOB.out.alloc _) _ _ _ [(D, 6, cf)] rfl (rd_newS _ _ (D, 6, cf)) rfl (by omega) (by simp; omega) ?_); intro B2 c3 w6 hoB hgB2 hatB; have HOB6 := Lib.hid hoB; have HGB6 := Lib.hid hgB2; have HATB6 := Lib.hid hatB; clear hoB hgB2 hatB)
                  have hb06 : Below w.heap.size w w6 := bel_app (bel_alloc hb45 _) HGB6.out (fun g h => (hBlt g h).1)
                  have hT6 := Two0.push hT5.out rD (rollL_len f d).symm (by rw [rollL_len]; omega) (fun g h => by
                    have h1 := (hDlt g h).1
                    refine ⟨fun e => ?_, fun e => ?_, fun e => ?_⟩
                    · have := (hAlt g e).2; omega
                    · have := (hBlt g e).2; omega
                    · omega) HOA.out HGA.out HATA.out (bel_alloc (Below.refl _ _) _) HOB6.out HGB6.out HATB6.out
                  have HT6 := Lib.hid hT6
                  clear hT6
                  exact ⟨⟨d + 1, m + 1, c2, c3, A2, B2, _, by omega, by omega, by omega, rfl, rfl, by go_num, by rw [HN.out, List.length_append, HM.out]; rfl, by rw [HN.out, cs_app, List.map_append]; exact HT6.out, hb06⟩, by simp [intOf]; omega⟩
          · have hd4' : d = 4 := by omega
            subst hd4'
            have HM := Lib.hid hm
            have HT := Lib.hid hT
            clear hm hT
            go_wp2_with fail
            exact ⟨⟨i + 1, m, cA, cB, A', B', hs, by omega, hmn, rfl, rfl, by go_num, HM.out, HT.out, hb⟩, by simp [intOf]; omega⟩
      · have him2 : i = m := by omega
        have hfin := HEND.out i (by omega)
        rw [hfin] at hm hT
        have hgd := HG.out (4 * i)
        rw [hfin] at hgd
        generalize facesL xs = L at hm hT HV hfin hgd
        have hlt2 : ¬ (i : Int) < (m : Int) := by omega
        have HM := Lib.hid hm
        have HGD := Lib.hid hgd
        have HT := Lib.hid hT
        clear hm hT hgd hfin him2
        go_wp2_with fail
        go_loopw [12] (fun e wr => ∃ k : Nat, k ≤ n ∧ e = .int .i64 k ∧ Two0 w.heap.size g0 60 2 (vC (cs L)) A' m cA B' cB hs (L.map (·.2)) ((xs.take k).map (face0 L) ++ List.replicate (n - k) 0) wr ∧ Below w.heap.size w wr) (fun e _ => n - (intOf e).toNat)
        case atStart => exact ⟨0, by omega, rfl, HT.out, hb⟩
        case round =>
          clear HT hb
          obtain ⟨k, hk, rfl, hT, hb⟩ := hrel
          by_cases hkn : k < n
          · have hkx : k < xs.length := by rw [HL.out]; exact hkn
            have hk0 : (0 : Int) ≤ (k : Int) := by omega
            have hk1 : (k : Int) < (n : Int) := by omega
            have HE : Hid (List.replicate (n - k) (0 : Int) = face0 (L.take 0) xs[k] :: List.replicate (n - (k + 1)) 0) := by
              show List.replicate (n - k) (0 : Int) = _
              rw [show n - k = (n - (k + 1)) + 1 by omega]; rfl
            rw [HE.out] at hT
            have HT := Lib.hid hT
            clear hT
            go_wp2_with fail
            go_loopw [13] (fun e wr => ∃ j : Nat, j ≤ m ∧ e = .int .i64 j ∧ Two0 w.heap.size g0 60 2 (vC (cs L)) A' m cA B' cB hs (L.map (·.2)) ((xs.take k).map (face0 L) ++ face0 (L.take j) xs[k] :: List.replicate (n - (k + 1)) 0) wr ∧ Below w.heap.size w wr) (fun e _ => m - (intOf e).toNat)
            case atStart => exact ⟨0, by omega, rfl, HT.out, hb⟩
            case round =>
              clear HT hb HE
              obtain ⟨j, hj, rfl, hT, hb⟩ := hrel
              by_cases hjm : j < m
              · have hjL : j < L.length := by have := HM.out; omega
                have hjC : j < (cs L).length := by rw [cs_len]; exact hjL
                have hj0 : (0 : Int) ≤ (j : Int) := by omega
                have hj1 : (j : Int) < (m : Int) := by omega
                have hrw := hr.below hb
                obtain ⟨ga', offa', hga', hgx, c1, c2⟩ := RdC.at_ hrw hkx
                simp only [Option.some.injEq, Addr.mk.injEq, and_true] at hga'
                obtain ⟨rfl, rfl⟩ := hga'
                obtain ⟨gs, offs, hAs, hgs, d1, d2⟩ := RdC.at_ (Rd.of_own hT.two.own1) hjC
                subst hAs
                have hce : (cs L)[j] = L[j].1 := by simp [cs]
                rw [hce] at d1 d2
                have hft := face0_take HGD.out.nd hjL xs[k]
                obtain ⟨⟨x, y⟩, hx⟩ : ∃ p, xs[k] = p := ⟨_, rfl⟩
                obtain ⟨⟨⟨a, b⟩, f⟩, hp⟩ : ∃ p, L[j] = p := ⟨_, rfl⟩
                rw [hx] at c1 c2 hft hT
                rw [hp] at d1 d2 hft
                simp only at d1 d2 hft
                by_cases hxy : a = x ∧ b = y
                · obtain ⟨rfl, rfl⟩ := hxy
                  simp only [beq_self_eq_true, if_true] at hft
                  have HT := Lib.hid hT
                  have HFT := Lib.hid hft
                  have HP := Lib.hid hp
                  have HX := Lib.hid hx
                  have e1 : (a == a) = true := by simp
                  have e2 : (b == b) = true := by simp
                  clear hT hft hp hx hce
                  go_wp2_with fail
                  (refine wp_region_below (by kernel_rfl) (by kernel_rfl) ?_; (repeat (first | go_big_quiet_skip | (refine quietV (v := ?_) (by rfl) rfl (fun w' hbw => ?_) ?_; rotate_left; ((try dsimp only at hbw); have hbc := (bcell hbw).1; have hbf := (bcell hbw).2; go_simp; first | done | with_reducible rfl | fail); simp only [List.setIfInBounds_toArray, List.set_cons_zero, List.set_cons_succ]))); refine wpQuiet_nil ?_; intro wq hq)
                  have hT := HT.out.below hq
                  have hro := hT.two.rows
                  have hhl : j < hs.length := by rw [hro.len]; simpa using hjL
                  obtain ⟨gB, offB, hBe, hgB, l1⟩ := RdS.at_ (Rd.of_own hT.two.own2) hhl
                  subst hBe
                  have hrow := hro.at_ j hhl (by simpa using hjL)
                  have hfe : (L.map (·.2))[j]'(by simpa using hjL) = f := by simp [HP.out]
                  rw [hfe] at hrow
                  obtain ⟨⟨D0, n0, c0⟩, hh⟩ : ∃ h, hs[j] = h := ⟨_, rfl⟩
                  rw [hh] at l1 hrow
                  obtain ⟨hr6, hfp, hrd⟩ := hrow
                  simp only at l1 hr6 hrd
                  obtain ⟨gD, offD, hDe, hgD, r1⟩ := RdI.at_ hrd hfp
                  subst hDe
                  rw [Nat.add_zero] at r1
                  have hft := HFT.out
                  have hgd0 : f.getD 0 0 = f[0] := by rw [List.getD_eq_getElem?_getD, List.getElem?_eq_getElem hfp]; rfl
                  rw [hgd0] at hft
                  have hn0p : (0 : Int) < (n0 : Int) := by omega
                  have hpl : ((xs.take k).map (face0 L)).length = k := by rw [List.length_map, List.length_take]; omega
                  have hcell := mid_cell hT.two.beside hpl
                  have hfr := hT.two.beside.frozen k
                  have hT2 : Two0 w.heap.size g0 60 2 (vC (cs L)) (some ⟨gs, offs, none⟩) m cA (some ⟨gB, offB, none⟩) cB hs (L.map (·.2)) ((xs.take k).map (face0 L) ++ face0 (L.take (j + 1)) xs[k] :: List.replicate (n - (k + 1)) 0) (wq.setCell ⟨g0, k, none⟩ (.int .i64 f[0])) := by
                    have h := hT.set_ k f[0]
                    rw [mid_set hpl] at h
                    rw [HX.out, hft]
                    exact h
                  have HT2 := Lib.hid hT2
                  have hbw : Below w.heap.size w wq := bel_trans hb hq
                  clear hT2 hT hft hgd0 hr6 hh hfe hro hpl
                  go_wp2_with fail
                  exact ⟨⟨j + 1, by omega, by go_num, HT2.out, bel_set hbw hg0b⟩, by simp [intOf]; omega⟩
                · have hN : face0 (L.take (j + 1)) (x, y) = face0 (L.take j) (x, y) := by
                    rw [hft, if_neg]
                    intro h
                    have h2 : ((a, b) : C) = (x, y) := by simpa using h
                    injection h2 with h3 h4
                    exact hxy ⟨h3, h4⟩
                  rw [← hN, ← hx] at hT
                  have HT := Lib.hid hT
                  have hbw := hb
                  clear hT hft hN hp hx hce
                  by_cases hax : a = x
                  · have hby : ¬ b = y := fun h => hxy ⟨hax, h⟩
                    subst hax
                    have e1 : (a == a) = true := by simp
                    have e2 : (y == b) = false := by simp; omega
                    clear hxy hby
                    go_wp2_with fail
                    (refine wp_region_below (by kernel_rfl) (by kernel_rfl) ?_; (repeat (first | go_big_quiet_skip | (refine quietV (v := ?_) (by rfl) rfl (fun w' hbw => ?_) ?_; rotate_left; ((try dsimp only at hbw); have hbc := (bcell hbw).1; have hbf := (bcell hbw).2; go_simp; first | done | with_reducible rfl | fail); simp only [List.setIfInBounds_toArray, List.set_cons_zero, List.set_cons_succ]))); refine wpQuiet_nil ?_; intro wq hq)
                    go_wp2_with fail
                    exact ⟨⟨j + 1, by omega, by go_num, HT.out.below hq, (by (repeat (first | with_reducible exact Below.refl _ _ | with_reducible assumption | with_reducible apply bel_alloc | with_reducible apply bel_drew | with_reducible apply bel_drewN | ((with_reducible refine bel_set ?_ ?_); rotate_left; (simp <;> omega)) | (with_reducible refine bel_trans ?_ (by with_reducible assumption)))))⟩, by simp [intOf]; omega⟩
                  · have e1 : (x == a) = false := by simp; omega
                    clear hxy hax
                    go_wp2_with fail
                    (refine wp_region_below (by kernel_rfl) (by kernel_rfl) ?_; (repeat (first | go_big_quiet_skip | (refine quietV (v := ?_) (by rfl) rfl (fun w' hbw => ?_) ?_; rotate_left; ((try dsimp only at hbw); have hbc := (bcell hbw).1; have hbf := (bcell hbw).2; go_simp; first | done | with_reducible rfl | fail); simp only [List.setIfInBounds_toArray, List.set_cons_zero, List.set_cons_succ]))); refine wpQuiet_nil ?_; intro wq hq)
                    go_wp2_with fail
                    exact ⟨⟨j + 1, by omega, by go_num, HT.out.below hq, (by (repeat (first | with_reducible exact Below.refl _ _ | with_reducible assumption | with_reducible apply bel_alloc | with_reducible apply bel_drew | with_reducible apply bel_drewN | ((with_reducible refine bel_set ?_ ?_); rotate_left; (simp <;> omega)) | (with_reducible refine bel_trans ?_ (by with_reducible assumption)))))⟩, by simp [intOf]; omega⟩
              · have hjm2 : j = m := by omega
                have HTK : Hid ((xs.take k).map (face0 L) ++ face0 (L.take j) xs[k] :: List.replicate (n - (k + 1)) 0 = (xs.take (k + 1)).map (face0 L) ++ List.replicate (n - (k + 1)) 0) := by
                  show (xs.take k).map (face0 L) ++ face0 (L.take j) xs[k] :: List.replicate (n - (k + 1)) 0 = _
                  rw [List.take_of_length_le (l := L) (by have := HM.out; omega), List.take_succ_eq_append_getElem hkx, List.map_append, List.append_assoc]; rfl
                rw [HTK.out] at hT
                have HT := Lib.hid hT
                have hj1 : ¬ (j : Int) < (m : Int) := by omega
                clear hT hjm2 HTK
                go_wp2_with fail
                exact ⟨⟨k + 1, by omega, by go_num, HT.out, hb⟩, by simp [intOf]; omega⟩
          · have hkn2 : k = n := by omega
            subst hkn2
            rw [List.take_of_length_le (by rw [HL.out]; omega), Nat.sub_self, List.replicate_zero, List.append_nil, ← HV.out] at hT
            have hfl : (vI (faces xs)).toArray.size = k * 1 := by rw [List.size_toArray, vI_length, HV.out, List.length_map, HL.out]; omega
            have ho := own_blk hT.two.beside hfl hg0b (by unfold maxLen; omega)
            have HO := Lib.hid ho
            clear ho hT hfl
            go_wp2
            go_ret2
            exact ⟨_, _, _, rfl, by have h := HO.out; simpa using h, hb⟩
end Go.Proofs.Ytemmbpmgfjodnaa
