/- The reference's CountRowConvex. -/
import Derived.Test.YtagiifoejdlecaaRowsM
import Derived.Test.YtagiifoejdlecaaNest
import Derived.Test.YtagiifoejdlecaaSmall
import Derived.Test.YtagiifoejdlecaaReg
import Derived.Outline
import Derived.WalkLawsBesides
import Derived.WalkSpells
import Derived.BigQuiet
import Derived.Deep.QuietTactic
import Derived.Deep.RegionHeld3
import Derived.Deep.RegionWith
import Derived.Deep.DeepCutAuto
import Derived.Deep.CutBlock
import Derived.Deep.DrawnRows
namespace Go.Proofs.Ytagiifoejdlecaa
open Go.RowKit
set_option linter.unusedVariables false
attribute [local go_sem ↓] Go.wp_at_zero Go.wp_at_succ

/-- The table on the way: rows of zeros so far, the totals beside them. -/
structure EndsI (base b1 M k : Nat) (A : Option Addr) (n cap : Nat) (G : List Nat) (w : World) : Prop where
  own : w.ownsRow base 25 1 (.slice A n cap) n (vS (hds M G))
  rows : Rows w 3 G (List.replicate k (vI (zeI M)))
  tot : Blk w b1 3 (vI (zeI M)).toArray
  sep : ∀ g ∈ G, b1 < g ∧ ob A ≠ some g
  sepA : ob A ≠ some b1
theorem EndsI.push {base b1 M k : Nat} {A A' : Option Addr} {n cap c' : Nat} {G : List Nat} {w w' : World} {o : Obj} (h : EndsI base b1 M k A n cap G w)
    (ho : w'.ownsRow base 25 1 (.slice A' (n + 1) c') (n + 1) (vS (hds M G ++ [(some ⟨w.heap.size, 0, none⟩, M, M)])))
    (hg : ((w.alloc (.cells (vI (zeI M)).toArray 3)).alloc o).grownBy w' (ob A)) (ha : ob A' = ob A ∨ ob A' = some ((w.alloc (.cells (vI (zeI M)).toArray 3)).alloc o).heap.size) :
    EndsI base b1 M (k + 1) A' (n + 1) c' (G ++ [w.heap.size]) w' := by
  have hlt := own_lt h.own
  have hsz : ((w.alloc (.cells (vI (zeI M)).toArray 3)).alloc o).heap.size = w.heap.size + 2 := by simp
  rw [hsz] at ha
  have hb := h.tot.lt
  have hf : w.heap.size ∉ G := fun hm => absurd (h.rows.lt _ hm) (by omega)
  have hnA : ∀ g, g ∈ G ++ [w.heap.size] → some g ≠ ob A := by
    intro g hg' he
    rcases List.mem_append.1 hg' with hm | hm
    · exact (h.sep g hm).2 he.symm
    · simp only [List.mem_singleton] at hm
      subst hm
      exact absurd (hlt _ he.symm).2 (by omega)
  refine ⟨by rw [hds_append]; exact ho, ?_, ((h.tot.alloc _).alloc _).grown hg (fun e => h.sepA e.symm), fun g hm => ?_, ?_⟩
  · rw [List.replicate_succ']
    exact (((h.rows.alloc _).push (Blk.new w _ _) hf).alloc o).grown hg hnA
  · rcases List.mem_append.1 hm with h1 | h1
    · refine ⟨(h.sep g h1).1, ?_⟩
      rcases ha with ha | ha
      · rw [ha]; exact (h.sep g h1).2
      · rw [ha]; intro e; injection e with e; have := h.rows.lt g h1; omega
    · simp only [List.mem_singleton] at h1
      subst h1
      refine ⟨hb, ?_⟩
      rcases ha with ha | ha
      · rw [ha]; exact fun e => hnA _ (by simp) e.symm
      · rw [ha]; intro e; injection e with e; omega
  · rcases ha with ha | ha
    · rw [ha]; exact h.sepA
    · rw [ha]; intro e; injection e with e; omega

/-- The table and the totals while they are written. -/
structure EndsM (base b1 M : Nat) (A : Option Addr) (G : List Nat) (R : List (List Int)) (T : List Int) (w : World) : Prop where
  hdr : Rd w A (vS (hds M G))
  rows : Rows w 3 G (R.map vI)
  tot : Blk w b1 3 (vI T).toArray
  sep : ∀ g ∈ G, b1 < g ∧ ob A ≠ some g
  sepA : ob A ≠ some b1
  gl : G.length = M
  bs : base ≤ b1
theorem EndsI.main {base b1 M : Nat} {A : Option Addr} {n cap : Nat} {G : List Nat} {w : World} (h : EndsI base b1 M M A n cap G w) (hb : base ≤ b1) : EndsM base b1 M A G (List.replicate M (List.replicate M 0)) (zeI M) w :=
  ⟨Rd.of_own h.own, by have := h.rows; rwa [← List.map_replicate] at this, h.tot, h.sep, h.sepA, by have := h.rows.len; simpa using this, hb⟩
section
variable {base b1 M : Nat} {A : Option Addr} {G : List Nat} {R : List (List Int)} {T : List Int} {w : World}
theorem EndsM.setRow (h : EndsM base b1 M A G R T w) {c : Nat} (hc : c < G.length) (hc' : c < R.length) (t : Nat) (v : Int) : EndsM base b1 M A G (R.set c (R[c].set t v)) T (w.setCell ⟨G[c], t, none⟩ (.int .i64 v)) := by
  have hm := h.sep _ (List.getElem_mem hc)
  refine ⟨h.hdr.far (fun g hg e => hm.2 (by rw [hg, e])) _, ?_, h.tot.far (by have := hm.1; simp; omega) _, h.sep, h.sepA, h.gl, h.bs⟩
  have := h.rows.set_ hc (by simpa using hc') t (.int .i64 v)
  simpa [List.map_set, vI] using this
theorem EndsM.setTot (h : EndsM base b1 M A G R T w) (c : Nat) (v : Int) : EndsM base b1 M A G R (T.set c v) (w.setCell ⟨b1, c, none⟩ (.int .i64 v)) :=
  ⟨h.hdr.far (fun g hg e => h.sepA (by rw [hg, e])) _, h.rows.far (fun hm => absurd (h.sep _ hm).1 (by simp)) _, blkI_set h.tot c v, h.sep, h.sepA, h.gl, h.bs⟩
theorem EndsM.head (h : EndsM base b1 M A G R T w) {c : Nat} (hc : c < G.length) : ∃ g off, A = some ⟨g, off, none⟩ ∧ w.cell? ⟨g, off + c, none⟩ = some (.slice (some ⟨G[c], 0, none⟩) M M) := by
  obtain ⟨g, off, e, _, h1⟩ := RdS.at_ h.hdr (k := c) (by rw [hds_length]; exact hc)
  rw [hds_get M G c hc] at h1
  exact ⟨g, off, e, h1⟩
theorem EndsM.cell (h : EndsM base b1 M A G R T w) {c t : Nat} {v : Int} (hc : c < G.length) (he : ent R c t = some v) : w.cell? ⟨G[c], t, none⟩ = some (.int .i64 v) := by
  unfold ent at he
  have hc' : c < R.length := by
    rcases Nat.lt_or_ge c R.length with h | h
    · exact h
    · rw [List.getElem?_eq_none h] at he; cases he
  rw [List.getElem?_eq_getElem hc', Option.bind_some] at he
  rw [h.rows.cell hc (by simpa using hc')]
  simp only [List.getElem_map, vI]
  rw [List.getElem?_map, he]; rfl
theorem EndsM.frozen (h : EndsM base b1 M A G R T w) {c : Nat} (hc : c < G.length) (hc' : c < R.length) (t : Nat) : w.frozen? ⟨G[c], t, none⟩ = false := (h.rows.blk c hc (by simpa using hc')).frozen t
theorem EndsM.totAt (h : EndsM base b1 M A G R T w) {c : Nat} {v : Int} (he : T[c]? = some v) : w.cell? ⟨b1, c, none⟩ = some (.int .i64 v) := by
  rw [h.tot.cell]; simp [vI, he]
end

set_option maxHeartbeats 1600000 in
theorem CountRowConvex_s (m : Nat) (w : World) (h1 : 1 ≤ m) (h2 : m ≤ 12) : Calls Try.prog 9 #[.int .i64 (m : Int)] w (Ret w (.int .i64 (rowConvex m))) := by
  obtain ⟨M, hM⟩ : ∃ M, M = m + 1 := ⟨_, rfl⟩
  have hMi : (m : Int) + 1 = (M : Int) := by omega
  have hM13 : M ≤ 13 := by omega
  have hmk : ∀ wq, (Instr.makeSlice 25 (.int .i64 (M : Int)) (.int .i64 (M : Int))).run Try.prog wq = _ := fun wq => mk_I wq M (by omega)
  have HM := Lib.hid hM
  clear hM
  go_enter Try.func9, Try.ntmps9
  go_wp2_with (go_at_call 28; refine (l1In_t _ _ _ _ (by omega) (by omega)).mono ?_; rintro e w1 ⟨rfl, hb1⟩)
  go_loopw [5, 4] (fun i e wr => ∃ (k n cap : Nat) (A : Option Addr) (G : List Nat), k ≤ m + 1 ∧ i = .int .i64 k ∧ n = k ∧ e = .slice A n cap ∧ EndsI w.heap.size w1.heap.size M k A n cap G wr ∧ Below w.heap.size w wr) (fun i _ _ => 20 - (intOf i).toNat)
  case atStart =>
    have hbs := hb1.size
    exact ⟨0, 0, 0, some ⟨w1.heap.size + 1, 0, none⟩, [], by omega, rfl, rfl, rfl, ⟨by simpa [hds, vS] using own_new (w1.alloc (.cells (vI (zeI M)).toArray 3)) 25 1 0 #[] rfl (by simp [maxLen]) (base := w.heap.size) (by simp; omega), Rows.nil _ _, (Blk.new _ _ _).alloc _, by simp, by simp [ob]⟩, (by (repeat (first | with_reducible exact Below.refl _ _ | with_reducible assumption | with_reducible apply bel_alloc | with_reducible apply bel_drew | with_reducible apply bel_drewN | ((with_reducible refine bel_set ?_ ?_); rotate_left; (simp <;> omega)) | (with_reducible refine bel_trans ?_ (by with_reducible assumption)))))⟩
  case round =>
    obtain ⟨k, n, cap, A, G, hk, rfl, hnk, rfl, hE, hb⟩ := hrel
    by_cases hlt : k ≤ m
    · have HN := Lib.hid hnk
      have HE := Lib.hid hE
      have hn13 : n ≤ 13 := by omega
      have hbw := hb.size
      clear hnk hE
      go_wp2_with ((at_builtin; go_must (refine app_S _ rfl _ _ rfl w.heap.size _ _ _ _ rfl ((HE.out.own.alloc _).alloc _) _ _ _ [(some ⟨wr.heap.size, 0, none⟩, M, M)] rfl (by have := rd_newS (wr.alloc (.cells (vI (zeI M)).toArray 3)) 25 (some ⟨wr.heap.size, 0, none⟩, M, M); simpa [hd] using this) rfl (by omega) (by simp; omega) ?_); intro A' c' w' hown' hg' hat'; have HP := Lib.hid (HE.out.push hown' hg' hat'); have HL := Lib.hid (own_lt HE.out.own); have HBG := Lib.hid (bel_app (bel_alloc (bel_alloc hb _) _) hg' (fun g' hg1 => (HL.out g' hg1).1)); clear hown' hg' hat'))
      exact ⟨⟨k + 1, n + 1, c', A', _, by omega, by go_num, by have := HN.out; omega, rfl, HP.out, HBG.out⟩, by simp [intOf]; omega⟩
    · have hkm : k = M := by have := HM.out; omega
      have hbs := hb1.size
      subst hkm
      subst hnk
      have hS : EndsM w.heap.size w1.heap.size n A G (List.replicate n (List.replicate n 0)) (zeI n) wr := hE.main hbs
      have hT0 : TabS m (List.replicate n (List.replicate n 0)) 1 1 := by rw [HM.out]; exact TabS.zero m
      have hT1 : ∀ i, 1 ≤ i → i ≤ m → (zeI n)[i]? = some 0 := fun i _ hi => by unfold zeI; rw [List.getElem?_replicate, if_pos (by have := HM.out; omega)]
      have HS := Lib.hid hS
      have HT0 := Lib.hid hT0
      have HT1 := Lib.hid hT1
      clear hS hT0 hT1 hE hmk
      go_wp2
      go_loopw [6] (fun i wr => ∃ (c : Nat) (R : List (List Int)) (T : List Int), 1 ≤ c ∧ c ≤ m + 1 ∧ i = .int .i64 c ∧ TabS m R c 1 ∧ (∀ i, c ≤ i → i ≤ m → T[i]? = some 0) ∧ (1 < c → T[c - 1]? = some (rcS (rcT (c - 1)) (c - 1) (c - 1))) ∧ EndsM w.heap.size w1.heap.size n A G R T wr ∧ Below w.heap.size w wr) (fun i _ => 20 - (intOf i).toNat)
      case atStart => exact ⟨1, _, _, by omega, by omega, rfl, HT0.out, HT1.out, by omega, HS.out, hb⟩
      case round =>
        clear hb HS HT0 HT1
        obtain ⟨c, R, T, hc1, hc2, rfl, hT, hZ, hV, hE, hb⟩ := hrel
        by_cases hlc : c ≤ m
        · have hT2 : T[c]? = some 0 := hZ c (by omega) hlc
          have hZ2 : ∀ i, c < i → i ≤ m → T[i]? = some 0 := fun i h1 h2 => hZ i (by omega) h2
          have HT := Lib.hid hT
          have HE := Lib.hid hE
          have HT2 := Lib.hid hT2
          have HZ2 := Lib.hid hZ2
          clear hT hE hT2 hZ2 hZ hV
          go_wp2
          go_loopw [7, 8] (fun l _ wr => ∃ (j t : Nat) (R : List (List Int)) (T : List Int), t = j + 1 ∧ j ≤ c ∧ l = .int .i64 t ∧ TabS m R c t ∧ T[c]? = some (rcS (rcT c) c j) ∧ (∀ i, c < i → i ≤ m → T[i]? = some 0) ∧ EndsM w.heap.size w1.heap.size n A G R T wr ∧ Below w.heap.size w wr) (fun l _ _ => 20 - (intOf l).toNat)
          case atStart => exact ⟨0, 1, _, _, rfl, by omega, rfl, HT.out, HT2.out, HZ2.out, HE.out, hb⟩
          case round =>
            clear hb HT HE HT2 HZ2
            obtain ⟨j, t, R, T, htj, hj, rfl, hT, hTc, hZ, hE, hb⟩ := hrel
            by_cases hlt : t ≤ c
            · obtain ⟨d, hd⟩ : ∃ d, c = t + d := ⟨c - t, by omega⟩
              have hsub : (c : Int) - (t : Int) = (d : Int) := by omega
              have hkm : n = m + 1 := HM.out
              have hgl := hE.gl
              have hcG : c < G.length := by omega
              have hcR : c < R.length := by rw [hT.len]; omega
              have htR : t < R[c].length := by rw [hT.wid c hcR]; omega
              have i1 : (0 : Int) ≤ (c : Int) := by omega
              have i2 : (c : Int) < (n : Int) := by omega
              have i3 : (0 : Int) ≤ (t : Int) := by omega
              have i4 : (t : Int) < (n : Int) := by omega
              have i5 : (t : Int) ≤ (c : Int) := by omega
              have HD := Lib.hid hd
              have HK := Lib.hid htj
              have HT := Lib.hid hT
              have HE := Lib.hid hE
              have HTc := Lib.hid hTc
              have HZ := Lib.hid hZ
              have HKM := Lib.hid hkm
              have HGL := Lib.hid hgl
              clear hd htj hT hE hTc hZ hkm hgl
              go_upto_if 40 with fail
              go_cut [8] (fun s wx => s = .int .i64 (rcG (rcT c) c t 0) ∧ wx = wr)
              case first =>
                by_cases hkc : t = c
                · have e1 : ((t : Int) == (c : Int)) = true := by simp [hkc]
                  have HV : Hid (rcG (rcT c) c t 0 = 1) := by show rcG (rcT c) c t 0 = 1; simp only [rcG]; rw [if_pos hkc]
                  clear hkc
                  go_wp2
                  go_meet
                  exact ⟨by rw [HV.out], rfl⟩
                · have e1 : ((t : Int) == (c : Int)) = false := by simp; omega
                  have HV : Hid (rcG (rcT c) c t 0 = 0) := by show rcG (rcT c) c t 0 = 0; simp only [rcG]; rw [if_neg hkc]
                  clear hkc
                  go_wp2
                  go_meet
                  exact ⟨by rw [HV.out], rfl⟩
              case rest =>
                obtain ⟨rfl, rfl⟩ := hcut
                go_wp2_with fail
                go_loopw [9, 8] (fun b s wq => ∃ (q p : Nat), p = q + 1 ∧ q ≤ d ∧ b = .int .i64 p ∧ s = .int .i64 (rcG (rcT c) c t q) ∧ wq = wc) (fun b _ _ => 20 - (intOf b).toNat)
                case atStart => exact ⟨0, 1, rfl, by omega, rfl, rfl, rfl⟩
                case round =>
                  obtain ⟨q, p, hpq, hq, rfl, rfl, rfl⟩ := hrel
                  have hkp : c = t + d := HD.out
                  have hk0 : t = j + 1 := HK.out
                  have hgl : G.length = n := HGL.out
                  by_cases hlp : p ≤ d
                  · have hent : ent R d p = some (rcT c d p) := HT.out.done d p (by omega) (by omega) (by omega) (by omega)
                    have hdG : d < G.length := by omega
                    have g2 := HE.out.cell hdG hent
                    obtain ⟨g, off, rfl, g1⟩ := HE.out.head hdG
                    have j1 : (0 : Int) ≤ (d : Int) := by omega
                    have j2 : (d : Int) < (n : Int) := by omega
                    have j3 : (0 : Int) ≤ (p : Int) := by omega
                    have j4 : (p : Int) < (n : Int) := by omega
                    have j5 : (p : Int) ≤ (d : Int) := by omega
                    obtain ⟨e, he⟩ : ∃ e : Nat, e = p + t := ⟨_, rfl⟩
                    obtain ⟨f, hf⟩ : ∃ f : Nat, f = t + q := ⟨_, rfl⟩
                    have hadd : (p : Int) + (t : Int) = (e : Int) := by omega
                    have j6 : (e : Int) ≤ 30 := by omega
                    have j7 : (1 : Int) ≤ (e : Int) := by omega
                    have hsb : (e : Int) - 1 = (f : Int) := by omega
                    have hstep : rcG (rcT c) c t (q + 1) = wrap64 (rcG (rcT c) c t q + wrap64 (rcT c d p * (f : Int))) := by
                      simp only [rcG]
                      rw [show c - t = d from by omega, show q + 1 = p from hpq.symm, show (t : Int) + ((q : Int) + 1) - 1 = (f : Int) from by omega, Int.mul_comm]
                    have hq1 : q + 1 ≤ d := by omega
                    generalize G[d] = gd at *
                    generalize rcG (rcT c) c t q = u at *
                    generalize rcT c d p = v at *
                    have HSP := Lib.hid hstep
                    have HPQ := Lib.hid hpq
                    clear hstep hpq he hf hkp hk0 hgl hent
                    go_wp2_with fail
                    exact ⟨⟨q + 1, p + 1, by rw [HPQ.out], hq1, by go_num, by rw [HSP.out], trivial⟩, by simp [intOf]; omega⟩
                  · have hqd : q = d := by omega
                    have hE1 := HE.out.setRow hcG hcR t (rcG (rcT c) c t q)
                    have hf1 := HE.out.frozen hcG hcR t
                    have hf0 := HE.out.cell (t := t) (v := R[c][t]) hcG (by unfold ent; rw [List.getElem?_eq_getElem hcR, Option.bind_some, List.getElem?_eq_getElem htR])
                    have hsp := (HE.out.sep _ (List.getElem_mem hcG)).1
                    obtain ⟨g, off, rfl, g1⟩ := HE.out.head hcG
                    have hnx := HT.out.step (by omega) (by omega) hlc hcR
                    rw [show c - t = q from by omega] at hnx
                    have hnt : rcS (rcT c) c (j + 1) = wrap64 (rcS (rcT c) c j + rcG (rcT c) c t q) := by
                      simp only [rcS]
                      rw [← hk0, show c - t = q from by omega]
                    generalize rcG (rcT c) c t q = u at *
                    generalize G[c] = gc at *
                    have g2 := hE1.totAt HTc.out
                    have g3 := hE1.tot.frozen c
                    have hE2 := hE1.setTot c (wrap64 (rcS (rcT c) c j + u))
                    have hTl : c < T.length := by
                      rcases Nat.lt_or_ge c T.length with h | h
                      · exact h
                      · have := HTc.out; rw [List.getElem?_eq_none h] at this; cases this
                    have hTn : (T.set c (wrap64 (rcS (rcT c) c j + u)))[c]? = some (rcS (rcT c) c (j + 1)) := by rw [List.getElem?_set_self hTl, hnt]
                    have hZn : ∀ i, c < i → i ≤ m → (T.set c (wrap64 (rcS (rcT c) c j + u)))[i]? = some 0 := fun i h1 h2 => by rw [List.getElem?_set_ne (by omega)]; exact HZ.out i h1 h2
                    have j5 : ¬ (p : Int) ≤ (d : Int) := by omega
                    have hj1 : j + 1 ≤ c := by omega
                    have HNX := Lib.hid hnx
                    have HE2 := Lib.hid hE2
                    have HTN := Lib.hid hTn
                    have HZN := Lib.hid hZn
                    clear hnx hnt hE1 hE2 hTn hZn hpq hkp hk0 hqd hlp hq hgl hTl
                    go_wp2_with fail
                    exact ⟨⟨j + 1, t + 1, _, _, by rw [HK.out], hj1, by go_num, HNX.out, HTN.out, HZN.out, HE2.out, (by (repeat (first | with_reducible exact Below.refl _ _ | with_reducible assumption | with_reducible apply bel_alloc | with_reducible apply bel_drew | with_reducible apply bel_drewN | ((with_reducible refine bel_set ?_ ?_); rotate_left; (simp <;> omega)) | (with_reducible refine bel_trans ?_ (by with_reducible assumption)))))⟩, by simp [intOf]; omega⟩
            · have hjc : j = c := by omega
              have hnx : TabS m R (c + 1) 1 := TabS.next (by rw [← hjc, ← htj]; rw [hjc]; exact hT)
              have hnv : T[c]? = some (rcS (rcT c) c c) := by rw [← hjc] at hTc ⊢; exact hTc
              have j5 : ¬ (t : Int) ≤ (c : Int) := by omega
              have HNX := Lib.hid hnx
              have HNV := Lib.hid hnv
              have HE := Lib.hid hE
              have HZ := Lib.hid hZ
              clear hjc htj hT hTc hZ hE hnx hnv
              go_wp2
              exact ⟨⟨c + 1, R, T, by omega, by omega, by go_num, HNX.out, fun i h1 h2 => HZ.out i (by omega) h2, fun _ => HNV.out, HE.out, (by (repeat (first | with_reducible exact Below.refl _ _ | with_reducible assumption | with_reducible apply bel_alloc | with_reducible apply bel_drew | with_reducible apply bel_drewN | ((with_reducible refine bel_set ?_ ?_); rotate_left; (simp <;> omega)) | (with_reducible refine bel_trans ?_ (by with_reducible assumption)))))⟩, by simp [intOf]; omega⟩
        · have hcm : c = m + 1 := by omega
          have hv : T[m]? = some (rowConvex m) := by
            have := hV (by omega)
            rwa [hcm] at this
          have g1 := hE.totAt hv
          have j5 : ¬ (c : Int) ≤ (m : Int) := by omega
          clear hv hcm hV hZ hE hT
          go_wp2
          go_ret
          exact ⟨rfl, (by (repeat (first | with_reducible exact Below.refl _ _ | with_reducible assumption | with_reducible apply bel_alloc | with_reducible apply bel_drew | with_reducible apply bel_drewN | ((with_reducible refine bel_set ?_ ?_); rotate_left; (simp <;> omega)) | (with_reducible refine bel_trans ?_ (by with_reducible assumption)))))⟩
end Go.Proofs.Ytagiifoejdlecaa
