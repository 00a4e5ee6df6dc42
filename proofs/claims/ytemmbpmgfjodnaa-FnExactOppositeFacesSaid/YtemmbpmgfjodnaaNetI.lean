/- The faces of a cube that rolls over a shape: the program. -/
import Derived.Test.YtemmbpmgfjodnaaNetM
import Derived.Test.YtemmbpmgfjodnaaHdrs
import Derived.Test.YtemmbpmgfjodnaaMaps
import Derived.Test.YtemmbpmgfjodnaaQueue
import Derived.Test.YtemmbpmgfjodnaaStep
import Derived.Test.YtemmbpmgfjodnaaTree
import Derived.Test.YtemmbpmgfjodnaaGrowS
import Derived.Test.YtemmbpmgfjodnaaShape
import Derived.Test.YtemmbpmgfjodnaaQtail
import Derived.Outline
import Derived.WalkLawsBesides
import Derived.WalkSpells
import Derived.BigQuiet
import Derived.Deep.QuietTactic
import Derived.Deep.RegionHeld3
import Derived.Deep.RegionWith
import Derived.Deep.DeepCutAuto
import Derived.Deep.CutBlock
import Derived.Deep.DrawnRows
namespace Go.Proofs.Ytemmbpmgfjodnaa
open Go.RowKit
set_option linter.unusedVariables false
attribute [local go_sem ↓] Go.wp_at_zero Go.wp_at_succ

/-- The map's entries: cells and the headers of their cubes. -/
def ents (l : List C) (hs : List H) : List (C × Value) := (l.zip hs).map fun p => (p.1, hd p.2)
theorem ents_push {l : List C} {hs : List H} (h : hs.length = l.length) (c : C) (x : H) : ents (l ++ [c]) (hs ++ [x]) = ents l hs ++ [(c, hd x)] := by
  unfold ents
  rw [List.zip_append h.symm]
  simp
theorem ents_none {l : List C} {hs : List H} {c : C} (hc : c ∉ l) : lookC (ents l hs) c = none := by
  unfold lookC
  rw [Option.map_eq_none_iff, List.find?_eq_none]
  intro p hp h
  unfold ents at hp
  obtain ⟨q, hq, rfl⟩ := List.mem_map.1 hp
  have : q.1 = c := by simpa using h
  exact hc (this ▸ (List.of_mem_zip hq).1)
theorem ents_some {l : List C} {hs : List H} (hn : l.Nodup) (h : hs.length = l.length) {k : Nat} (hk : k < l.length) : lookC (ents l hs) l[k] = some (hd (hs[k]'(by omega))) := by
  induction l generalizing hs k with
  | nil => simp at hk
  | cons a t ih =>
    cases hs with
    | nil => simp at h
    | cons x u =>
      unfold lookC ents
      rw [List.zip_cons_cons, List.map_cons, List.find?_cons]
      cases k with
      | zero => simp
      | succ k =>
        have hne : (a == (a :: t)[k + 1]) = false := by
          simp only [List.getElem_cons_succ, beq_eq_false_iff_ne, ne_eq]
          intro e
          exact (List.nodup_cons.1 hn).1 (e ▸ List.getElem_mem _)
        rw [hne]
        exact ih (List.nodup_cons.1 hn).2 (by simpa using h) (by simpa using hk)
theorem ents_isSome {l : List C} {hs : List H} (h : hs.length = l.length) (hn : l.Nodup) (c : C) : (lookC (ents l hs) c).isSome = hasC l c.1 c.2 := by
  by_cases hc : c ∈ l
  · rw [(hasC_iff _ _).2 hc]
    obtain ⟨k, hk, rfl⟩ := List.mem_iff_getElem.1 hc
    rw [ents_some hn h hk]; rfl
  · have : hasC l c.1 c.2 = false := by rw [Bool.eq_false_iff]; exact fun e => hc ((hasC_iff _ _).1 e)
    rw [this, ents_none hc]; rfl
/-- The letter of a direction. -/
def dl (d : Nat) : Int := match d with
  | 0 => 114
  | 1 => 100
  | 2 => 108
  | _ => 117
theorem stepDir_i (x y mx my : Int) (d : Nat) (hd : d < 4) (hm : mv (x, y) d = (mx, my)) (hx : -1000 ≤ x ∧ x ≤ 1000) (hy : -1000 ≤ y ∧ y ≤ 1000) (w : World) :
    Calls Try.prog 75 #[.agg #[.int .i64 x, .int .i64 y], .int .u8 (dl d)] w (Ret w (.tuple #[.agg #[.int .i64 mx, .int .i64 my], .bool true])) := by
  rcases (by omega : d = 0 ∨ d = 1 ∨ d = 2 ∨ d = 3) with rfl | rfl | rfl | rfl
  · refine (stepFrom_i x y 114 w).mono ?_
    rintro e w' ⟨rfl, hb⟩
    simp only [mv, Prod.mk.injEq] at hm
    have h : stepW (x, y) 114 = some (mx, my) := by
      show some (wrap64 (x + 1), y) = _
      rw [IntWalk.wrap64_in _ (by omega), hm.1, hm.2]
    rw [h]; exact ⟨rfl, hb⟩
  · refine (stepFrom_i x y 100 w).mono ?_
    rintro e w' ⟨rfl, hb⟩
    simp only [mv, Prod.mk.injEq] at hm
    have h : stepW (x, y) 100 = some (mx, my) := by
      show some (x, wrap64 (y + 1)) = _
      rw [IntWalk.wrap64_in _ (by omega), hm.1, hm.2]
    rw [h]; exact ⟨rfl, hb⟩
  · refine (stepFrom_i x y 108 w).mono ?_
    rintro e w' ⟨rfl, hb⟩
    simp only [mv, Prod.mk.injEq] at hm
    have h : stepW (x, y) 108 = some (mx, my) := by
      show some (wrap64 (x - 1), y) = _
      rw [IntWalk.wrap64_in _ (by omega), hm.1, hm.2]
    rw [h]; exact ⟨rfl, hb⟩
  · refine (stepFrom_i x y 117 w).mono ?_
    rintro e w' ⟨rfl, hb⟩
    simp only [mv, Prod.mk.injEq] at hm
    have h : stepW (x, y) 117 = some (mx, my) := by
      show some (x, wrap64 (y - 1)) = _
      rw [IntWalk.wrap64_in _ (by omega), hm.1, hm.2]
    rw [h]; exact ⟨rfl, hb⟩
theorem blk_two_i {w w' : World} {g : Nat} {t : TypeId} {x y u v : Value} (h : Blk w g t #[x, y]) (hb : Ext ((w.setCell ⟨g, 0, none⟩ u).setCell ⟨g, 1, none⟩ v) w') : Blk w' g t #[u, v] := by
  have h2 := (h.set_ 0 u).set_ 1 v
  have h3 : Blk ((w.setCell ⟨g, 0, none⟩ u).setCell ⟨g, 1, none⟩ v) g t #[u, v] := by simpa using h2
  exact h3.below hb
/-- The map, the cubes' rows, the queue. -/
structure NetI (base bm : Nat) (L : L2) (hs : List H) (g off m c : Nat) (todo : List C) (w : World) : Prop where
  map : MapC w bm (ents (cs L) hs)
  rows : RowsH w hs (L.map (·.2))
  q : World.ownsQ w base 60 2 g off m c (vC todo)
  sep : away hs g
  bas : base ≤ bm
theorem NetI.below {base bm : Nat} {L : L2} {hs : List H} {g off m c : Nat} {todo : List C} {w w' : World} (h : NetI base bm L hs g off m c todo w) (hb : Below w.heap.size w w') : NetI base bm L hs g off m c todo w' :=
  ⟨h.map.below hb, h.rows.below hb, ownQ_keep h.q hb, h.sep, h.bas⟩
theorem map_ne {w : World} {bm g base e size off n c : Nat} {es : List (C × Value)} {vs : List Value} (h : MapC w bm es) (hq : World.ownsQ w base e size g off n c vs) : bm ≠ g := by
  rintro rfl
  obtain ⟨arr, cl, h1, _⟩ := h
  obtain ⟨_, _, _, _, cur, h2, _⟩ := hq
  rw [h1] at h2
  cases h2
theorem map_away {w : World} {bm : Nat} {es : List (C × Value)} {hs : List H} {F : List (List Int)} (h : MapC w bm es) (hr : RowsH w hs F) : away hs bm := by
  intro x hx e
  obtain ⟨k, hk, rfl⟩ := List.mem_iff_getElem.1 hx
  have h1 := hr.at_ k hk (by rw [← hr.len]; exact hk)
  obtain ⟨g, off, hA, _, hc⟩ := RdI.at_ h1.2.2 h1.2.1
  rw [hA] at e
  simp only [ob, Option.map_some, Option.some.injEq] at e
  subst e
  obtain ⟨arr, cl, hm, _⟩ := h
  simp [World.cell?, hm] at hc
theorem NetI.len {base bm : Nat} {L : L2} {hs : List H} {g off m c : Nat} {todo : List C} {w : World} (h : NetI base bm L hs g off m c todo w) : hs.length = (cs L).length := by
  have := h.rows.len
  rw [List.length_map] at this
  rw [cs_len]; exact this
theorem NetI.push {base bm : Nat} {L : L2} {hs : List H} {g off m c : Nat} {todo : List C} {w2 w7 w8 : World} {x : C} {D : Option Addr} {cf : Nat} {f : List Int} {o : Obj} {g' off' c' : Nat}
    (h : NetI base bm L hs g off m c todo w2) (hg7 : w2.grownBy w7 (some bm)) (hm7 : MapC w7 bm (ents (cs L) hs ++ [(x, .slice D 6 cf)])) (hD : Rd w7 D (vI f)) (h6 : f.length = 6) (hDb : ∀ k, ob D = some k → w2.heap.size ≤ k)
    (hq8 : World.ownsQ w8 base 60 2 g' off' (m + 1) c' (vC (todo ++ [x]))) (hg8 : (w7.alloc o).grownBy w8 (some g)) (hg' : g' = g ∨ g' = (w7.alloc o).heap.size) :
    NetI base bm (L ++ [(x, f)]) (hs ++ [(D, 6, cf)]) g' off' (m + 1) c' (todo ++ [x]) w8 := by
  have hne := map_ne h.map h.q
  have hglt := (ownQ_lt h.q).2
  have hz7 := hg7.size
  have e1 : ents (cs (L ++ [(x, f)])) (hs ++ [(D, 6, cf)]) = ents (cs L) hs ++ [(x, .slice D 6 cf)] := by rw [cs_app]; exact ents_push h.len x (D, 6, cf)
  obtain ⟨gd, hgd, hgl⟩ := hD.blk (by omega)
  have hgd2 := hDb gd hgd
  have haw := map_away h.map h.rows
  have r7 : RowsH w7 hs (L.map (·.2)) := h.rows.grown hg7 (fun k e => by injection e with e; subst e; exact haw)
  have r7p := r7.push (c := cf) hD h6.symm (by omega)
  have aw : away (hs ++ [(D, 6, cf)]) g := away_push h.sep (fun e => by rw [hgd] at e; injection e with e; omega)
  have awn : away (hs ++ [(D, 6, cf)]) (w7.alloc o).heap.size := r7p.away_new (by simp)
  have hsz : (w7.alloc o).heap.size = w7.heap.size + 1 := by simp
  refine ⟨?_, ?_, hq8, ?_, h.bas⟩
  · rw [e1]; exact (hm7.alloc o).grown hg8 (fun e => hne (by injection e))
  · rw [List.map_append]
    exact (r7p.below (Below.alloc (Below.refl _ _) (Nat.le_refl _) o)).grown hg8 (fun k e => by injection e with e; subst e; exact aw)
  · rcases hg' with rfl | rfl
    · exact aw
    · exact awn
theorem blk_map {w : World} {bm p : Nat} {t : TypeId} {es : List (C × Value)} {vs : Array Value} (h : MapC w bm es) (hq : Blk w p t vs) : p ≠ bm := by
  rintro rfl
  obtain ⟨arr, cl, h1, _⟩ := h
  unfold Blk at hq
  rw [h1] at hq
  cases hq
/-- The class for a store at a new key: what another key has stays. -/
def GrM (w : World) (bm : Nat) (c : C) (v : Value) (w' : World) : Prop := w.grownBy w' (some bm) ∧ ∃ es, MapC w' bm es ∧ lookC es c = some v
theorem GrM.drawn {w : World} {bm : Nat} {c : C} {v : Value} {es : List (C × Value)} (h : MapC w bm es) (hl : lookC es c = some v) : GrM w bm c v { w with drawn := w.drawn + 1 } := ⟨⟨rfl, rfl, rfl, Nat.le_refl _, fun _ _ _ => rfl⟩, es, h.at_ rfl, hl⟩
theorem GrM.ext {w w1 w2 : World} {bm : Nat} {c : C} {v : Value} (h : GrM w bm c v w1) (he : Ext w1 w2) : GrM w bm c v w2 := by
  obtain ⟨h1, es, h2, h3⟩ := h
  exact ⟨Gr.ext (A := some ⟨bm, 0, none⟩) h1 he, es, h2.below he, h3⟩
theorem GrM.cells {w w' : World} {bm : Nat} {c : C} {v : Value} (h : GrM w bm c v w') : ∀ b o, b < w.heap.size → some b ≠ some bm → w'.cell? ⟨b, o, none⟩ = w.cell? ⟨b, o, none⟩ := fun b o hb hne => World.cell?_of_block (h.1.block b hb hne)
theorem GrM.look {w w' : World} {bm : Nat} {x y : Int} {v : Value} (h : GrM w bm (x, y) v w') : (Instr.lookup 67 (.map (some bm)) (.agg #[.int .i64 x, .int .i64 y]) false).run Try.prog w' = .ok v w' := by
  obtain ⟨h1, es, h2, h3⟩ := h
  have := run_lookC h2 Try.underlying67 (z := .slice none 0 0) (by kernel_rfl) (x, y) false
  rw [h3] at this
  exact this
theorem GrM.put {w w1 w2 : World} {bm : Nat} {c d : C} {v u : Value} {es : List (C × Value)} (h : GrM w bm c v w1) (hg : w1.grownBy w2 (some bm)) (hm : MapC w2 bm (es ++ [(d, u)])) (hl : lookC es c = some v) : GrM w bm c v w2 :=
  ⟨h.1.trans hg, _, hm, by rw [lookC_app, hl]; rfl⟩
theorem faces_no_i {xs : List C} (h : isConn xs = false) : faces xs = [] := by unfold faces; rw [h]; rfl
theorem faces_yes_i {xs : List C} (h : isConn xs = true) : faces xs = xs.map (face0 (facesL xs)) := by unfold faces; rw [h]; rfl
set_option maxRecDepth 100000 in
set_option maxHeartbeats 3200000 in
theorem FacesOf_i (A : Option Addr) (n c : Nat) (xs : List C) (w : World) (hr : Rd w A (vC xs)) (hl : xs.length = n) (hn : n ≤ 1099511627776) :
    Calls Try.prog 36 #[.slice A n c] w (RetS2 w 3 1 (vI (faces xs)) (.bool (isConn xs))) := by
  have HL := Lib.hid hl
  cases hc : isConn xs with
  | false =>
    have HV := Lib.hid (faces_no_i hc)
    have HC := Lib.hid hc
    clear hc hl
    go_enter Try.func36, Try.ntmps36
    go_wp2_with (go_at_call 71; refine (IsConnectedShape_i _ _ _ xs _ hr HL.out (by omega)).mono ?_; rw [HC.out]; rintro e w1 ⟨rfl, hb1⟩)
    go_ret2
    exact ⟨none, 0, 0, rfl, by rw [HV.out]; exact own_nil _ _ _ _, (by (repeat (first | with_reducible exact Below.refl _ _ | with_reducible assumption | with_reducible apply bel_alloc | with_reducible apply bel_drew | with_reducible apply bel_drewN | ((with_reducible refine bel_set ?_ ?_); rotate_left; (simp <;> omega)) | (with_reducible refine bel_trans ?_ (by with_reducible assumption)))))⟩
  | true =>
    have HV := Lib.hid (faces_yes_i hc)
    have hs := conn_shape hc
    have hlen := shape_len hs
    have hsm := shape_small hs
    have hn8 : n ≤ 8 := by omega
    have hn1 : 1 ≤ n := by omega
    have hnp : (0 : Int) < (n : Int) := by omega
    have h0x : 0 < xs.length := by omega
    have hs0 : xs[0] = s0 xs := by simp [s0, List.getD_eq_getElem?_getD, h0x]
    have HGD := fun k => seqF_good h0x k
    have HG := Lib.hid HGD
    have HGL : Hid (∀ k, (seqF xs k).length ≤ n) := fun k => by have := seqF_len h0x k; omega
    have HEND : Hid (∀ i, (seqF xs (4 * i)).length ≤ i → seqF xs (4 * i) = facesL xs) := fun i h => seqF_end h0x h
    have HALL := Lib.hid (facesL_all hc)
    have HSM := Lib.hid hsm
    have HC := Lib.hid hc
    have HS0 := Lib.hid hs0
    clear hc hs hlen hsm hl hn hs0 HGD
    go_enter Try.func36, Try.ntmps36
    go_wp2_with fail
    refine (IsConnectedShape_i _ _ _ xs _ hr HL.out (by omega)).mono ?_
    rw [HC.out]
    rintro e w1 ⟨rfl, hb1⟩
    obtain ⟨ga, offa, rfl, hga, z1, z2⟩ := RdC.at_ (hr.below hb1) h0x
    rw [HS0.out] at z1 z2
    simp only [Nat.zero_mul, Nat.add_zero] at z1 z2
    obtain ⟨⟨zx, zy⟩, hz⟩ : ∃ p, s0 xs = p := ⟨_, rfl⟩
    rw [hz] at z1 z2
    have HZ := Lib.hid hz
    have hbs := hb1.size
    have hmm := @run_makeMap Try.prog
    clear hz
    go_wp2_with fail
    obtain ⟨w2, hrun, hM2, hg2, hz2⟩ := run_updC (w := (w1.alloc (.map #[] 0)).alloc (.cells #[.int .i64 0, .int .i64 1, .int .i64 2, .int .i64 3, .int .i64 4, .int .i64 5] 3)) (T := 67) ((MapC.made w1).alloc _) Try.underlying67 (zx, zy) (.slice (some ⟨w1.heap.size + 1, 0, none⟩) 6 6) rfl
    simp only [cellV] at hrun
    rw [hrun]
    have hb12 : Below w1.heap.size w1 w2 := by
      refine bel_grown (row := some w1.heap.size) ?_ hg2 (fun k e => by injection e with e; omega)
      exact bel_alloc (bel_alloc (Below.refl _ _) _) _
    have hz22 : w2.heap.size = w1.heap.size + 1 + 1 := by rw [hz2]; simp
    have y1 := keep_below hb12 z1
    have y2 := keep_below hb12 z2
    have hb02 := bel_trans hb1 hb12
    have hbs2 := hb02.size
    have HZ22 := Lib.hid hz22
    clear hrun hmm hz2 hz22
    go_wp2_with fail
    have hz22 := HZ22.out
    have hini : NetI w.heap.size w1.heap.size [(s0 xs, id6)] [(some ⟨w1.heap.size + 1, 0, none⟩, 6, 6)] w2.heap.size 0 1 1 [s0 xs] (w2.alloc (.cells #[.int .i64 zx, .int .i64 zy] 60)) := by
      rw [HZ.out]
      refine ⟨hM2.alloc _, ?_, ?_, ?_, hbs⟩
      · refine ⟨rfl, fun k a b => ?_⟩
        have e : k = 0 := by have : k < 1 := a; omega
        subst e
        refine ⟨rfl, by simp [id6], ?_⟩
        have hr3 : Rd ((w1.alloc (.map #[] 0)).alloc (.cells #[.int .i64 0, .int .i64 1, .int .i64 2, .int .i64 3, .int .i64 4, .int .i64 5] 3)) (some ⟨w1.heap.size + 1, 0, none⟩) (vI id6) := by
          have := rd_new (w1.alloc (.map #[] 0)) 3 #[.int .i64 0, .int .i64 1, .int .i64 2, .int .i64 3, .int .i64 4, .int .i64 5]
          simpa [vI, id6] using this
        exact (hr3.grown hg2 (fun g h e => by simp only [ob, Option.map_some, Option.some.injEq] at h e; omega)).alloc _
      · obtain ⟨g, hg, hq⟩ := ownQ_of (own_newC w2 60 zx zy hbs2) (by omega)
        injection hg with hg
        injection hg with hg
        subst hg
        exact hq
      · intro h hh
        simp only [List.mem_singleton] at hh
        rw [hh]
        simp only [ob, Option.map_some, ne_eq, Option.some.injEq]
        omega
    have HI := Lib.hid hini
    clear hini hz22
    generalize hbm : w1.heap.size = bm at HI
    have HBM := Lib.hid hbm
    clear hbm
    go_loopw [5] (fun e wr => ∃ (i m off cp g : Nat) (hs : List H), e = .slice (some ⟨g, off, none⟩) m cp ∧ i + m = (seqF xs (4 * i)).length ∧ NetI w.heap.size bm (seqF xs (4 * i)) hs g off m cp ((cs (seqF xs (4 * i))).drop i) wr ∧ Below w.heap.size w wr) (fun e wr => n + lenV e - mapSz wr bm)
    case atStart => exact ⟨0, 1, 0, 1, _, _, rfl, rfl, HI.out, (by (repeat (first | with_reducible exact Below.refl _ _ | with_reducible assumption | with_reducible apply bel_alloc | with_reducible apply bel_drew | with_reducible apply bel_drewN | ((with_reducible refine bel_set ?_ ?_); rotate_left; (simp <;> omega)) | (with_reducible refine bel_trans ?_ (by with_reducible assumption)))))⟩
    case round =>
      clear HI HZ hb1 z1 z2 y1 y2 hga hbs hM2 hg2 hb12 HZ22 hb02 hbs2 HBM
      obtain ⟨i, m, off, cp, g, hs, rfl, hm, hT, hb⟩ := hrel
      by_cases hlt : 0 < m
      · have hlt2 : (0 : Int) < (m : Int) := by omega
        have hgd := HG.out (4 * i)
        have hle := HGL.out (4 * i)
        have HSZ : Hid (mapSz wr bm = (seqF xs (4 * i)).length) := by show mapSz wr bm = _; rw [hT.map.sz]; have := hT.len; simp [ents, cs_len] at this ⊢; omega
        obtain ⟨m', rfl⟩ : ∃ m', m = m' + 1 := ⟨m - 1, by omega⟩
        have hiL : i < (cs (seqF xs (4 * i))).length := by rw [cs_len]; omega
        have hdr := List.drop_eq_getElem_cons hiL
        have hcx : (cs (seqF xs (4 * i)))[i] = ((seqF xs (4 * i)).getD i p0).1 := by rw [List.getD_eq_getElem?_getD, List.getElem?_eq_getElem (by omega)]; simp [cs]
        have hsm0 := HSM.out ((seqF xs (4 * i)).getD i p0).1 (hgd.sub _ (by rw [← hcx]; exact List.getElem_mem hiL))
        rw [hcx] at hdr
        obtain ⟨⟨⟨x, y⟩, f⟩, hq⟩ : ∃ q, (seqF xs (4 * i)).getD i p0 = q := ⟨_, rfl⟩
        rw [hq] at hdr hsm0
        simp only at hdr hsm0
        obtain ⟨⟨sx1, sx2⟩, ⟨sy1, sy2⟩⟩ := hsm0
        simp only at sx1 sx2 sy1 sy2
        rw [hdr] at hT
        obtain ⟨g', off', hA, hgw, c1, c2⟩ := RdC.at_ (Rd.of_ownQ hT.q) (k := 0) (by simp)
        simp only [Option.some.injEq, Addr.mk.injEq, and_true] at hA
        obtain ⟨rfl, rfl⟩ := hA
        simp only [List.getElem_cons_zero, Nat.zero_mul, Nat.add_zero] at c1 c2
        have hqt := ownQ_tail hT.q
        have hvd : (vC ((x, y) :: (cs (seqF xs (4 * i))).drop (i + 1))).drop 2 = vC ((cs (seqF xs (4 * i))).drop (i + 1)) := rfl
        rw [hvd] at hqt
        have hgltq := (ownQ_lt hT.q).2
        have hT1 : NetI w.heap.size bm (seqF xs (4 * i)) hs g (if cp = 1 then off else off + 2) m' (cp - 1) ((cs (seqF xs (4 * i))).drop (i + 1)) wr := ⟨hT.map, hT.rows, hqt, hT.sep, hT.bas⟩
        have hm8 : m' ≤ 8 := by omega
        have hcp : cp ≤ maxLen := by have := hT.q.2.2.1; exact this
        have hcp1 : m' + 1 ≤ cp := hT.q.2.1
        have HQ := Lib.hid hq
        have HM := Lib.hid hm
        have HT := Lib.hid hT1
        clear hq hm hT hT1 hqt hvd hdr hcx hgd
        unfold maxLen at hcp
        go_upto_region 7 with fail
        go_cut [5] (fun s wx => ∃ off1 cp1, s = .slice (some ⟨g, off1, none⟩) m' cp1 ∧ NetI w.heap.size bm (seqF xs (4 * i)) hs g off1 m' cp1 ((cs (seqF xs (4 * i))).drop (i + 1)) wx ∧ Blk wx wr.heap.size 60 #[.int .i64 x, .int .i64 y] ∧ Below wr.heap.size wr wx)
        case first =>
          by_cases h1 : cp = 1
          · obtain rfl : m' = 0 := by omega
            subst h1
            go_wp2_with fail
            go_meet
            exact ⟨_, _, rfl, HT.out.below (bel_alloc (Below.refl _ _) _), Blk.new _ _ _, (by (repeat (first | with_reducible exact Below.refl _ _ | with_reducible assumption | with_reducible apply bel_alloc | with_reducible apply bel_drew | with_reducible apply bel_drewN | ((with_reducible refine bel_set ?_ ?_); rotate_left; (simp <;> omega)) | (with_reducible refine bel_trans ?_ (by with_reducible assumption)))))⟩
          · have HN : Hid ((if cp = 1 then off else off + 2) = off + 2) := if_neg h1
            have hc2 : (1 : Int) < (cp : Int) := by omega
            have hc3 : 1 < cp := by omega
            have hc4 : ¬ cp = 1 := h1
            go_wp2_with fail
            go_meet
            exact ⟨_, _, rfl, by have h := HT.out.below (bel_alloc (Below.refl _ _) (.cells #[.int .i64 x, .int .i64 y] 60)); rw [HN.out] at h; exact h, Blk.new _ _ _, (by (repeat (first | with_reducible exact Below.refl _ _ | with_reducible assumption | with_reducible apply bel_alloc | with_reducible apply bel_drew | with_reducible apply bel_drewN | ((with_reducible refine bel_set ?_ ?_); rotate_left; (simp <;> omega)) | (with_reducible refine bel_trans ?_ (by with_reducible assumption)))))⟩
        case rest =>
          obtain ⟨off1, cp1, rfl, hT1, hkc, hbx⟩ := hcut
          have hgp : g ≠ wr.heap.size := by omega
          have hb2 := bel_trans hb hbx
          have hil0 : i < (seqF xs (4 * i)).length := by have := HM.out; omega
          have HQD : Hid (∀ d, (seqF xs (4 * i + d)).getD i p0 = ((x, y), f)) := fun d => by
            obtain ⟨t, ht⟩ := seqF_pre xs (4 * i) d
            rw [ht, List.getD_eq_getElem?_getD, List.getElem?_append_left hil0, ← List.getD_eq_getElem?_getD]
            exact HQ.out
          have HM1 : Hid (i + 1 + m' = (seqF xs (4 * i + 0)).length) := by have := HM.out; show i + 1 + m' = (seqF xs (4 * i)).length; omega
          have HM0 := Lib.hid HM.out
          have HT1 := Lib.hid hT1
          have HKC := Lib.hid hkc
          have HB2 := Lib.hid hb2
          clear hT1 hkc hbx hb2 hb HT HM c1 c2 hgw hgltq
          generalize hpc : wr.heap.size = pc at HKC hgp
          go_wp2_with fail
          go_loopw [5, 36] (fun e e36 wr2 => ∃ (d m off cp g : Nat) (hs : List H), d ≤ 4 ∧ e = .slice (some ⟨g, off, none⟩) m cp ∧ e36 = .int .i64 d ∧ i + 1 + m = (seqF xs (4 * i + d)).length ∧ NetI w.heap.size bm (seqF xs (4 * i + d)) hs g off m cp ((cs (seqF xs (4 * i + d))).drop (i + 1)) wr2 ∧ Blk wr2 pc 60 #[.int .i64 x, .int .i64 y] ∧ g ≠ pc ∧ Below w.heap.size w wr2) (fun _ e36 _ => 4 - (intOf e36).toNat)
          case atStart => exact ⟨0, m', off1, cp1, g, hs, by omega, rfl, rfl, HM1.out, HT1.out, HKC.out, hgp, HB2.out⟩
          case round =>
            clear HM1 HT1 HKC HB2 hgp hcp hcp1 hm8 hle hlt hlt2 hpc
            obtain ⟨d, m, off, cp, g, hs, hd4, rfl, rfl, hm, hT, hkc, hgp, hb⟩ := hrel
            by_cases hd : d < 4
            · have hsx : seqF xs (4 * i + d + 1) = stepF xs (seqF xs (4 * i + d)) i d := by
                show stepF xs (seqF xs (4 * i + d)) ((4 * i + d) / 4) ((4 * i + d) % 4) = _
                rw [show (4 * i + d) / 4 = i by omega, show (4 * i + d) % 4 = d by omega]
              have hgd := HG.out (4 * i + d)
              have hle := HGL.out (4 * i + d + 1)
              have hqd := HQD.out d
              rw [hsx] at hle
              generalize seqF xs (4 * i + d) = L at hsx hm hT hgd hle hqd
              obtain ⟨⟨mx, my⟩, hmxy⟩ : ∃ p, mv (x, y) d = p := ⟨_, rfl⟩
              have HQ2 := Lib.hid hqd
              have HX := Lib.hid hmxy
              have HM := Lib.hid hm
              have HT := Lib.hid hT
              have HSX := Lib.hid hsx
              have HGD := Lib.hid hgd
              have b1 := hkc.cell 0
              have b2 := hkc.cell 1
              simp only [List.getElem?_toArray, List.getElem?_cons_zero, List.getElem?_cons_succ] at b1 b2
              have hpl := hkc.lt
              clear hqd hmxy hm hT hsx hgd
              go_upto_region 11 with fail
              go_cut [8] (fun p wx => ∃ pb, p = .pointer (some ⟨pb, 0, none⟩) ∧ Blk wx pb 60 #[.int .i64 mx, .int .i64 my] ∧ wr.heap.size ≤ pb ∧ Below wr.heap.size wr wx)
              case first =>
                rcases (by omega : d = 0 ∨ d = 1 ∨ d = 2 ∨ d = 3) with hd0 | hd0 | hd0 | hd0
                all_goals
                  subst hd0
                  (refine wp_region_tailN (C := ExC wr) 7 (by kernel_rfl) (by kernel_rfl) (ExC.drawn _) (fun _ _ h k => ExC.ext h k) ?_; simp only [List.take_succ_cons, List.take_zero, List.drop_succ_cons, List.drop_zero]; (repeat (first | (refine headSkip (by rfl) rfl ?_; simp only [List.setIfInBounds_toArray, List.set_cons_zero, List.set_cons_succ]) | (refine headV (v := ?_) (by rfl) rfl (fun w' hcw => ?_) ?_; rotate_left; ((try dsimp only at hcw); have hbc := hcw.cells; go_simp; first | done | with_reducible rfl | (exact callsX (v := .tuple #[.agg #[.int .i64 mx, .int .i64 my], .bool true]) (stepDir_i x y mx my _ (by omega) HX.out ⟨sx1, sx2⟩ ⟨sy1, sy2⟩ _))); simp only [List.setIfInBounds_toArray, List.set_cons_zero, List.set_cons_succ]))); unfold wpHead)
                  (refine tailK (by rfl) (fun w3 hc3 he3 K hK => ?_); go_simp; refine hK _ _ (hc3.ext (bel_alloc (Below.refl _ _) _)) ?_; clear hK K)
                  have k3 := Blk.new w3 60 #[.int .i64 0, .int .i64 0]
                  have hz3 := he3.size
                  refine tailK (by rfl) (fun w4 hc4 he4 K hK => ?_)
                  have k4 := k3.below he4
                  have q1 : w4.cell? ⟨w3.heap.size, 0, none⟩ = some (.int .i64 0) := by simpa using k4.cell 0
                  have q2 : w4.cell? ⟨w3.heap.size, 1, none⟩ = some (.int .i64 0) := by simpa using k4.cell 1
                  have f1 := k4.frozen 0
                  have f2 := k4.frozen 1
                  go_simp
                  refine hK _ _ (bel_set (bel_set hc4 (by simp; omega)) (by simp; omega)) ?_
                  clear hK K
                  (refine tailK (by rfl) (fun w5 hc5 he5 K hK => ?_); go_simp; refine hK _ _ (hc5) ?_; clear hK K)
                  (refine fun w6 hc6 he6 => NoPanic.normal ?_)
                  go_wp2_with fail
                  go_meet
                  exact ⟨_, rfl, (blk_two_i k4 he5).below he6, hz3, hc6⟩
              case rest =>
                obtain ⟨pb, rfl, hkb, hpb, hbx⟩ := hcut
                have x1 := hkb.cell 0
                have x2 := hkb.cell 1
                simp only [List.getElem?_toArray, List.getElem?_cons_zero, List.getElem?_cons_succ] at x1 x2
                have hxl := hkb.lt
                have HT2 := Lib.hid (HT.out.below hbx)
                have HKC := Lib.hid (hkc.below hbx)
                have hkb2 := hkb
                have hrw := hr.below (bel_trans hb hbx)
                have hb2 := bel_trans hb hbx
                have y1 := keep_below hbx b1
                have y2 := keep_below hbx b2
                have hlen2 := HT2.out.len
                have hil : i < L.length := by have := HM.out; omega
                have HLK := Lib.hid (run_lookC HT2.out.map Try.underlying67 (z := .slice none 0 0) (by kernel_rfl) (mx, my) true)
                have HIS := Lib.hid (ents_isSome (hs := hs) hlen2 HGD.out.nd (mx, my))
                have HND : Hid (newD xs L (mx, my) = (hasC xs mx my && !hasC (cs L) mx my)) := rfl
                have HOLD : Hid (newD xs L (mx, my) = false → seqF xs (4 * i + (d + 1)) = L) := fun h => by
                  show seqF xs (4 * i + d + 1) = L
                  rw [HSX.out]; unfold stepF; rw [HQ2.out]; simp only [HX.out, h]; simp
                clear HT hkc hbx b1 b2 hpl hkb hlen2
                cases h2 : hasC (cs L) mx my with
                | true =>
                  have HN := Lib.hid (HOLD.out (by rw [HND.out, h2]; simp))
                  have his := HIS.out
                  simp only at his
                  rw [h2] at his
                  obtain ⟨v, hv⟩ := Option.isSome_iff_exists.1 his
                  have hlk := HLK.out
                  rw [hv] at hlk
                  simp only [if_true, Option.getD_some, Option.isSome_some, cellV] at hlk
                  clear his hv h2 HOLD HND HIS HLK
                  go_wp2_with fail
                  clear hlk
                  exact ⟨⟨d + 1, m, off, cp, g, hs, by omega, rfl, by go_num, by rw [HN.out]; exact HM.out, by rw [HN.out]; exact HT2.out, HKC.out, hgp, (by (repeat (first | with_reducible exact Below.refl _ _ | with_reducible assumption | with_reducible apply bel_alloc | with_reducible apply bel_drew | with_reducible apply bel_drewN | ((with_reducible refine bel_set ?_ ?_); rotate_left; (simp <;> omega)) | (with_reducible refine bel_trans ?_ (by with_reducible assumption)))))⟩, by simp [intOf]; omega⟩
                | false =>
                  have his := HIS.out
                  simp only at his
                  rw [h2] at his
                  have hnone : lookC (ents (cs L) hs) (mx, my) = none := by
                    cases hq : lookC (ents (cs L) hs) (mx, my) with
                    | none => rfl
                    | some v => rw [hq] at his; cases his
                  have hlk := HLK.out
                  rw [hnone] at hlk
                  simp only [if_true, Option.getD_none, Option.isSome_none, cellV] at hlk
                  have HNO := Lib.hid hnone
                  clear his hnone HIS HLK
                  cases h1 : hasC xs mx my with
                  | false =>
                    have HN := Lib.hid (HOLD.out (by rw [HND.out, h1]; rfl))
                    have H1 := Lib.hid h1
                    clear h1 h2 HOLD HND
                    go_wp2_with fail
                    refine (HasCell_i _ _ _ xs mx my _ hrw HL.out (by omega)).mono ?_
                    rw [H1.out]
                    rintro e w2 ⟨rfl, hb3⟩
                    clear hlk
                    go_wp2_with fail
                    exact ⟨⟨d + 1, m, off, cp, g, hs, by omega, rfl, by go_num, by rw [HN.out]; exact HM.out, by rw [HN.out]; exact HT2.out.below hb3, HKC.out.below hb3, hgp, (by (repeat (first | with_reducible exact Below.refl _ _ | with_reducible assumption | with_reducible apply bel_alloc | with_reducible apply bel_drew | with_reducible apply bel_drewN | ((with_reducible refine bel_set ?_ ?_); rotate_left; (simp <;> omega)) | (with_reducible refine bel_trans ?_ (by with_reducible assumption)))))⟩, by simp [intOf]; omega⟩
                  | true =>
                    have HN : Hid (seqF xs (4 * i + (d + 1)) = L ++ [((mx, my), rollL f d)]) := by
                      show seqF xs (4 * i + d + 1) = _
                      rw [HSX.out]; unfold stepF; rw [HQ2.out, if_pos ⟨hil, by simp only [HX.out, HND.out, h1, h2]; rfl⟩]; simp only [HX.out]
                    have hle2 : m + 1 ≤ n := by
                      have h := HGL.out (4 * i + (d + 1))
                      rw [HN.out, List.length_append, List.length_singleton] at h
                      have := HM.out; omega
                    have H1 := Lib.hid h1
                    clear h1 h2 HOLD HND
                    go_wp2_with fail
                    refine (HasCell_i _ _ _ xs mx my _ hrw HL.out (by omega)).mono ?_
                    rw [H1.out]
                    rintro e w2 ⟨rfl, hb3⟩
                    clear hlk
                    have u1 := keep_below hb3 x1
                    have u2 := keep_below hb3 x2
                    have u3 := keep_below hb3 y1
                    have u4 := keep_below hb3 y2
                    have HT3 := Lib.hid (HT2.out.below hb3)
                    have HKC3 := Lib.hid (HKC.out.below hb3)
                    have hb4 := bel_trans hb2 hb3
                    have hz3 := hb3.size
                    clear HT2 HKC x1 x2 y1 y2
                    go_wp2_with fail
                    have hT3 := HT3.out
                    have hne0 := map_ne hT3.map hT3.q
                    have hne1 : pc ≠ bm := blk_map hT3.map HKC3.out
                    have hne2 : pb ≠ bm := blk_map hT3.map (hkb2.below hb3)
                    have hpc2 := HKC3.out.lt
                    have hpb2 : pb < w2.heap.size := by omega
                    have hglt := (ownQ_lt hT3.q).2
                    have hblt := hT3.map.lt
                    have hiL2 : i < (cs L).length := by rw [cs_len]; exact hil
                    have hhl : i < hs.length := by rw [hT3.len]; exact hiL2
                    have hci : (cs L)[i] = (x, y) := by
                      have := HQ2.out
                      rw [List.getD_eq_getElem?_getD, List.getElem?_eq_getElem hil] at this
                      simp only [Option.getD_some] at this
                      simp [cs, this]
                    have hfe : (L.map (·.2))[i]'(by simpa using hil) = f := by
                      have := HQ2.out
                      rw [List.getD_eq_getElem?_getD, List.getElem?_eq_getElem hil] at this
                      simp only [Option.getD_some] at this
                      simp [this]
                    have hf6 : f.length = 6 := by
                      have := HGD.out.six _ (getD_mem hil)
                      rw [HQ2.out] at this
                      exact this
                    have hlk2 := ents_some HGD.out.nd hT3.len hiL2
                    have hrow := hT3.rows.at_ i hhl (by simpa using hil)
                    rw [hfe] at hrow
                    rw [hci] at hlk2
                    obtain ⟨⟨D0, n0, c0⟩, hh⟩ : ∃ h, hs[i] = h := ⟨_, rfl⟩
                    rw [hh] at hrow hlk2
                    obtain ⟨hr6, _, hrd⟩ := hrow
                    simp only [hd] at hr6 hrd hlk2
                    rw [hf6] at hr6
                    subst hr6
                    have HF6 := Lib.hid hf6
                    have HLK2 := Lib.hid hlk2
                    clear hT3 hci hfe hf6 hlk2 hh
                    (refine wp_region_tailN (C := GrM w2 bm (x, y) (.slice D0 6 c0)) 6 (by kernel_rfl) (by kernel_rfl) (GrM.drawn HT3.out.map HLK2.out) (fun _ _ h k => GrM.ext h k) ?_; simp only [List.take_succ_cons, List.take_zero, List.drop_succ_cons, List.drop_zero]; (repeat (first | (refine headSkip (by rfl) rfl ?_; simp only [List.setIfInBounds_toArray, List.set_cons_zero, List.set_cons_succ]) | (refine headV (v := ?_) (by rfl) rfl (fun w' hcw => ?_) ?_; rotate_left; ((try dsimp only at hcw); have hbc := hcw.cells; go_simp; first | done | with_reducible rfl | (have hl := hcw.look; go_simp; first | done | with_reducible rfl)); simp only [List.setIfInBounds_toArray, List.set_cons_zero, List.set_cons_succ]))); unfold wpHead)
                    refine tailK (by rfl) (fun w3 hc3 he3 K hK => ?_)
                    go_simp
                    refine (roll_i D0 c0 f d _ (hrd.below he3) HF6.out (by omega)).mono ?_
                    rintro e w4 ⟨D, mf, cf, rfl, hof, hb5⟩
                    have hm6 : 6 = mf := by have := own_len hof; rw [vI_length, rollL_len] at this; omega
                    subst hm6
                    refine hK _ _ (hc3.ext hb5) ?_
                    clear hK K
                    refine tailK (by rfl) (fun w5 hc5 he5 K hK => ?_)
                    have hM5 := ((HT3.out.map.below he3).below hb5).below he5
                    refine wpUpdC (T := 67) _ _ _ (Or.inl rfl) hM5 Try.underlying67 (mx, my) (.slice D 6 cf) rfl rfl rfl HNO.out ?_
                    intro w6 hM6 hg6 hz6
                    refine hK _ _ (GrM.put hc5 hg6 hM6 HLK2.out) ?_
                    clear hK K
                    simp only [Act.put]
                    (refine fun w7 hc7 he7 => NoPanic.normal ?_)
                    have hz3 := he3.size
                    have rD : Rd w7 D (vI (rollL f d)) := (((Rd.of_own hof).below he5).grown hg6 (fun k h e => by have := (own_lt hof k h).1; injection e with e; omega)).below he7
                    have hDb : ∀ k, ob D = some k → w2.heap.size ≤ k := fun k h => by have := (own_lt hof k h).1; omega
                    have hM7 := hM6.below he7
                    have hq7 := ownQ_kept HT3.out.q hc7.1 (fun e => hne0 (by injection e with e; exact e.symm))
                    have v1 := keep_grown hc7.1 u1 (fun e => hne2 (by injection e))
                    have v2 := keep_grown hc7.1 u2 (fun e => hne2 (by injection e))
                    have k7 := HKC3.out.grown hc7.1 (fun e => hne1 (by injection e))
                    have hb07 : Below w.heap.size w w7 := bel_grown hb4 hc7.1 (fun k e => by injection e with e; have := HT3.out.bas; omega)
                    have hz07 := hb07.size
                    have HG7 := Lib.hid hc7.1
                    have HM7 := Lib.hid hM7
                    have HQ7 := Lib.hid hq7
                    have HK7 := Lib.hid k7
                    have hpc7 := k7.lt
                    clear hof hg6 hM6 hM5 hM7 hc3 hc5 hc7 hq7 k7 u1 u2 u3 u4 hz6
                    have hm8 : m ≤ 8 := by omega
                    go_wp2_with (at_builtin; go_must (refine app_QC _ rfl _ _ rfl w.heap.size g off m cp _ rfl (ownQ_keep HQ7.out (bel_alloc (Below.refl _ _) _)) w7.heap.size _ _ [(mx, my)] rfl (newC_cells _ _ _ _) rfl (by omega) (by simp; omega) ?_); intro g' off' c' w8 hq8 hg8 hg'; have HQ8 := Lib.hid hq8; have HG8 := Lib.hid hg8; have HGG := Lib.hid hg'; clear hq8 hg8 hg')
                    have hT8 := NetI.push HT3.out HG7.out HM7.out rD (rollL_len f d) hDb HQ8.out HG8.out HGG.out
                    have k8 : Blk w8 pc 60 #[.int .i64 x, .int .i64 y] := (HK7.out.alloc _).grown HG8.out (fun e => hgp (by injection e with e; exact e.symm))
                    have hb08 : Below w.heap.size w w8 := bel_grown (row := some g) (bel_alloc hb07 _) HG8.out (fun k e => by injection e with e; have := (ownQ_lt HT3.out.q).1; omega)
                    exact ⟨⟨d + 1, m + 1, off', c', g', _, by omega, rfl, by go_num, by rw [HN.out, List.length_append, List.length_singleton]; have := HM.out; omega, by
                      rw [HN.out]
                      have e : (cs (L ++ [((mx, my), rollL f d)])).drop (i + 1) = (cs L).drop (i + 1) ++ [(mx, my)] := by rw [cs_app, List.drop_append_of_le_length (by omega)]
                      rw [e]; exact hT8, k8, by
                      rcases HGG.out with e | e
                      · rw [e]; exact hgp
                      · rw [e]; simp; omega, hb08⟩, by simp [intOf]; omega⟩
            · have hd4' : d = 4 := by omega
              subst hd4'
              have HM := Lib.hid hm
              have HT := Lib.hid hT
              have HSZ2 : Hid (mapSz wr bm = (seqF xs (4 * (i + 1))).length) := by show mapSz wr bm = _; rw [hT.map.sz]; have := hT.len; simp [ents, cs_len, Nat.mul_add] at this ⊢; omega
              have hle := HGL.out (4 * (i + 1))
              have hle0 := HGL.out (4 * i)
              clear hm hT
              go_wp2_with fail
              refine ⟨⟨i + 1, m, off, cp, g, hs, rfl, HM.out, HT.out, hb⟩, ?_⟩
              rw [HSZ.out, HSZ2.out]
              have h1 := HM.out
              have h2 := HM0.out
              have e : seqF xs (4 * i + 4) = seqF xs (4 * (i + 1)) := rfl
              rw [e] at h1
              simp only [lenV]
              omega
      · have hm0 : m = 0 := by omega
        have hfin := HEND.out i (by omega)
        have hgd := HG.out (4 * i)
        rw [hfin] at hm hT hgd
        have HALL2 := HALL.out
        generalize facesL xs = L at hm hT HV hfin hgd HALL2
        have hlt2 : ¬ (0 : Int) < (m : Int) := by omega
        have hM := hT.map
        have hR := hT.rows
        have hhl := hT.len
        have HGD := Lib.hid hgd
        have HA := Lib.hid HALL2
        have HHL := Lib.hid hhl
        have HM := Lib.hid hM
        have HR := Lib.hid hR
        clear hm hT hgd hfin hm0 HALL2 HALL hM hR hhl
        go_wp2_with fail
        go_loopw [12, 76] (fun e e76 wr => ∃ (k cp : Nat) (B : Option Addr), k ≤ n ∧ e = .slice B k cp ∧ e76 = .int .i64 k ∧ wr.ownsRow w.heap.size 3 1 (.slice B k cp) k (vI ((xs.take k).map (face0 L))) ∧ MapC wr bm (ents (cs L) hs) ∧ RowsH wr hs (L.map (·.2)) ∧ (∀ g, ob B = some g → away hs g) ∧ Below w.heap.size w wr) (fun _ e76 _ => n - (intOf e76).toNat)
        case atStart => exact ⟨0, 0, none, by omega, rfl, rfl, own_nil _ _ _ _, HM.out, HR.out, (fun g h => by cases h), hb⟩
        case round =>
          clear HM HR hb
          obtain ⟨k, cp, B, hk, rfl, rfl, hown, hM, hR, haw, hb⟩ := hrel
          by_cases hkn : k < n
          · have hkx : k < xs.length := by rw [HL.out]; exact hkn
            have hrw := hr.below hb
            obtain ⟨ga', offa', hga', hgx, c1, c2⟩ := RdC.at_ hrw hkx
            simp only [Option.some.injEq, Addr.mk.injEq, and_true] at hga'
            obtain ⟨rfl, rfl⟩ := hga'
            obtain ⟨f, hlf, hfm⟩ := lookF_mem (HA.out _ (List.getElem_mem hkx))
            have hf6 := HGD.out.six _ hfm
            obtain ⟨j, hjL, hLj⟩ := List.mem_iff_getElem.1 hfm
            have hjC : j < (cs L).length := by rw [cs_len]; exact hjL
            have hlk := ents_some HGD.out.nd HHL.out hjC
            have hcj : (cs L)[j] = xs[k] := by simp [cs, hLj]
            rw [hcj] at hlk
            have hhl : j < hs.length := by rw [HHL.out]; exact hjC
            have hrow := hR.at_ j hhl (by simpa using hjL)
            have hfe : (L.map (·.2))[j]'(by simpa using hjL) = f := by simp [hLj]
            rw [hfe] at hrow
            obtain ⟨⟨D0, n0, c0⟩, hh⟩ : ∃ h, hs[j] = h := ⟨_, rfl⟩
            rw [hh] at hrow hlk
            obtain ⟨hr6, hfp, hrd⟩ := hrow
            simp only [hd] at hr6 hrd hlk
            rw [hf6] at hr6
            obtain ⟨gD, offD, rfl, hgD, r1⟩ := RdI.at_ hrd hfp
            rw [Nat.add_zero] at r1
            have hmp : (xs.take (k + 1)).map (face0 L) = (xs.take k).map (face0 L) ++ [f[0]] := by
              rw [List.take_succ_eq_append_getElem hkx, List.map_append]
              congr 1
              show [face0 L xs[k]] = [f[0]]
              unfold face0
              rw [hlf]
              simp only [Option.getD_some, List.getD_eq_getElem?_getD, List.getElem?_eq_getElem hfp]
            obtain ⟨⟨x, y⟩, hx⟩ : ∃ p, xs[k] = p := ⟨_, rfl⟩
            rw [hx] at c1 c2 hlk
            have hrun := run_lookC (hM.alloc (.cells #[.int .i64 x, .int .i64 y] 60)) Try.underlying67 (z := .slice none 0 0) (by kernel_rfl) (x, y) false
            rw [hlk] at hrun
            simp only [Bool.false_eq_true, if_false, Option.getD_some, cellV] at hrun
            subst hr6
            have HMP := Lib.hid hmp
            have HO := Lib.hid hown
            have HM := Lib.hid hM
            have HR := Lib.hid hR
            have HAW := Lib.hid haw
            have hbs := hb.size
            clear hmp hown hM hR haw hlk hlf hfm hf6 hcj hh hfe hx hLj hrd
            generalize f[0] = v at HMP r1
            have hk8 : k ≤ 8 := by omega
            have hrn : Rd ((wr.alloc (.cells #[.int .i64 x, .int .i64 y] 60)).alloc (.cells #[.int .i64 v] 3)) (some ⟨wr.heap.size + 1, 0, none⟩) (vI [v]) := by
              have h := rd_newI (wr.alloc (.cells #[.int .i64 x, .int .i64 y] 60)) 3 v
              rw [show (wr.alloc (.cells #[.int .i64 x, .int .i64 y] 60)).heap.size = wr.heap.size + 1 from by simp] at h
              exact h
            go_wp2_with (at_builtin; go_must (refine app_I _ rfl _ _ rfl w.heap.size _ _ _ _ rfl ((HO.out.alloc _).alloc _) _ _ _ [v] rfl hrn rfl (by omega) (by simp; omega) ?_); intro B2 cp2 w8 ho8 hg8 hat8; have HO8 := Lib.hid ho8; have HG8 := Lib.hid hg8; have HAT := Lib.hid hat8; clear ho8 hg8 hat8)
            have hbb : Below wr.heap.size wr ((wr.alloc (.cells #[.int .i64 x, .int .i64 y] 60)).alloc (.cells #[.int .i64 v] 3)) := bel_alloc (bel_alloc (Below.refl _ _) _) _
            have hMb := HM.out.below hbb
            have hM8 : MapC w8 bm (ents (cs L) hs) := hMb.grown HG8.out (fun e => by
              rcases HO.out.2 with ⟨h1, _⟩ | ⟨g, cap, cur, hv, _, hg, _⟩
              · injection h1 with h1; rw [h1] at e; cases e
              · injection hv with hv
                rw [hv] at e
                simp only [ob, Option.map_some, Option.some.injEq] at e
                subst e
                obtain ⟨arr, cl, hm1, _⟩ := HM.out
                rw [hm1] at hg
                cases hg)
            have hR8 : RowsH w8 hs (L.map (·.2)) := (HR.out.below hbb).grown HG8.out (fun g e => HAW.out g e)
            have hA8 : ∀ g, ob B2 = some g → away hs g := fun g e => by
              rcases HAT.out with h | h
              · exact HAW.out g (h ▸ e)
              · rw [h] at e; injection e with e; subst e; exact (HR.out.below hbb).away_new (Nat.le_refl _)
            exact ⟨⟨k + 1, cp2, B2, by omega, rfl, by go_num, by rw [HMP.out]; exact HO8.out, hM8, hR8, hA8, bel_app (bel_trans hb hbb) HG8.out (fun g' hg1 => ((own_lt HO.out) g' hg1).1)⟩, by simp [intOf]; omega⟩
          · have hkn2 : k = n := by omega
            subst hkn2
            rw [List.take_of_length_le (by rw [HL.out]; omega), ← HV.out] at hown
            have HO := Lib.hid hown
            clear hown
            go_wp2
            go_ret2
            exact ⟨_, _, _, rfl, HO.out, hb⟩
end Go.Proofs.Ytemmbpmgfjodnaa
