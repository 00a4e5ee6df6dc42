/- Texts of this claim, one behind the other: part 5. -/
import Derived.Test.YtfnphchcgaebkaaGreatU4FnSnakes
import Derived.Outline
import Derived.WalkLawsBesides
import Derived.WalkSpells
import Derived.BigQuiet
import Derived.Deep.QuietTactic
import Derived.Deep.RegionHeld3
import Derived.Deep.RegionWith
import Derived.Deep.DeepCutAuto
import Derived.Deep.CutBlock
import Derived.Deep.DrawnRows
import Derived.Laws.CopyOwn
/- Slices of shapes: read, owned. -/
namespace Go.Proofs.YtfnphchcgaebkaaGreat
open Go.RowKit
set_option linter.unusedVariables false
/-- A slice header whose memory is a block of cells that reads as f. -/
def CRow (w : World) (x : H) (f : List C) : Prop := f.length = x.2.1 ∧ Rd w x.1 (vC f) ∧ ∀ g, ob x.1 = some g → ∃ cur z, w.heap[g]? = some (.cells cur 40 z)
/-- A slice of shapes that reads as F. -/
structure RdF (w : World) (A : Option Addr) (n : Nat) (hs : List H) (F : List (List C)) : Prop where
  top : Rd w A (vS hs)
  hlen : hs.length = n
  flen : F.length = n
  row : ∀ (i : Nat) x f, hs[i]? = some x → F[i]? = some f → CRow w x f
/-- .. and whose own block is the call's own. -/
structure OwnF (base : Nat) (w : World) (A : Option Addr) (n c : Nat) (hs : List H) (F : List (List C)) : Prop where
  own : w.ownsRow base 24 1 (.slice A n c) n (vS hs)
  flen : F.length = n
  row : ∀ (i : Nat) x f, hs[i]? = some x → F[i]? = some f → CRow w x f
section
variable {w w' : World} {x : H} {f : List C} {A : Option Addr} {n c base : Nat} {hs : List H} {F : List (List C)}
theorem CRow.lt (h : CRow w x f) : ∀ g, ob x.1 = some g → g < w.heap.size := fun g e => by
  obtain ⟨cur, z, h1⟩ := h.2.2 g e
  exact (Array.getElem?_eq_some_iff.1 h1).1
theorem CRow.below (h : CRow w x f) (hb : Below w.heap.size w w') : CRow w' x f :=
  ⟨h.1, h.2.1.below hb, fun g e => by obtain ⟨cur, z, h1⟩ := h.2.2 g e; exact ⟨cur, z, (hb.block g (Array.getElem?_eq_some_iff.1 h1).1).trans h1⟩⟩
theorem CRow.of_own (h : w.ownsRow base 40 2 (.slice A n c) n (vC f)) : CRow w (A, n, c) f := by
  refine ⟨by have := own_len h; rw [vC_length] at this; show f.length = n; omega, Rd.of_own h, fun g e => ?_⟩
  rcases h.2 with ⟨hv, _⟩ | ⟨g', cap, cur, hv, _, hg, _⟩
  · injection hv with hA
    subst hA
    simp [ob] at e
  · injection hv with hA
    subst hA
    simp only [ob, Option.map_some, Option.some.injEq] at e
    subst e
    exact ⟨cur, _, hg⟩
/-- A row of cells lies apart from a block of headers. -/
theorem CRow.apart (h : CRow w x f) {A : Option Addr} {n c base : Nat} {vs : List Value} {sz : Nat} (ho : w.ownsRow base 24 sz (.slice A n c) n vs) : ∀ g, ob x.1 = some g → ob A ≠ some g := by
  intro g e ea
  obtain ⟨cur, z, h1⟩ := h.2.2 g e
  rcases ho.2 with ⟨hv, _⟩ | ⟨g', cap, cur', hv, _, hg, _⟩
  · injection hv with hA
    subst hA
    simp [ob] at ea
  · injection hv with hA
    subst hA
    simp only [ob, Option.map_some, Option.some.injEq] at ea
    subst ea
    rw [h1] at hg
    injection hg with hg
    injection hg with _ h3
    exact absurd h3 (by decide)
theorem CRow.grown {row : Option Nat} (h : CRow w x f) (hg : w.grownBy w' row) (hn : ∀ g, ob x.1 = some g → row ≠ some g) : CRow w' x f :=
  ⟨h.1, h.2.1.grown hg (fun g e r => hn g (by simpa using e) r.symm), fun g e => by
    obtain ⟨cur, z, h1⟩ := h.2.2 g e
    exact ⟨cur, z, (hg.block g (Array.getElem?_eq_some_iff.1 h1).1 (fun r => hn g e r.symm)).trans h1⟩⟩
theorem OwnF.hlen (h : OwnF base w A n c hs F) : hs.length = n := by have := own_len h.own; rw [vS_length] at this; omega
theorem OwnF.rd (h : OwnF base w A n c hs F) : RdF w A n hs F := ⟨Rd.of_own h.own, h.hlen, h.flen, h.row⟩
theorem RdF.below (h : RdF w A n hs F) (hb : Below w.heap.size w w') : RdF w' A n hs F := ⟨h.top.below hb, h.hlen, h.flen, fun i x f a b => (h.row i x f a b).below hb⟩
theorem OwnF.below (h : OwnF base w A n c hs F) (hb : Below w.heap.size w w') : OwnF base w' A n c hs F := ⟨own_keep h.own hb, h.flen, fun i x f a b => (h.row i x f a b).below hb⟩
theorem OwnF.mono {base' : Nat} (h : OwnF base w A n c hs F) (hb : base' ≤ base) : OwnF base' w A n c hs F := ⟨own_base h.own hb, h.flen, h.row⟩
theorem OwnF.nil (base : Nat) (w : World) : OwnF base w none 0 0 [] [] := ⟨own_nil _ _ _ _, rfl, fun i x f a => by simp at a⟩
theorem OwnF.none_ (h : w.ownsRow base 24 1 (.slice A 0 c) 0 []) : OwnF base w A 0 c [] [] := ⟨h, rfl, fun i x f a => by simp at a⟩
theorem RdF.at_ (h : RdF w A n hs F) {k : Nat} (hk : k < n) : ∃ (x : H) (f : List C) (g off : Nat), hs[k]? = some x ∧ F[k]? = some f ∧ A = some ⟨g, off, none⟩ ∧ g < w.heap.size ∧ w.cell? ⟨g, off + k, none⟩ = some (.slice x.1 x.2.1 x.2.2) ∧ CRow w x f := by
  have a : k < hs.length := by rw [h.hlen]; exact hk
  have b : k < F.length := by rw [h.flen]; exact hk
  obtain ⟨g, off, e, hg, c1⟩ := RdS.at_ h.top a
  exact ⟨hs[k], F[k], g, off, List.getElem?_eq_getElem a, List.getElem?_eq_getElem b, e, hg, c1, h.row k _ _ (List.getElem?_eq_getElem a) (List.getElem?_eq_getElem b)⟩
end
/-- A result that is a slice of shapes of the call's own. -/
def RetF (w : World) (F : List (List C)) (e : Ending) (w' : World) : Prop :=
  ∃ A n c hs, e = .returned (.slice A n c) ∧ OwnF w.heap.size w' A n c hs F ∧ Below w.heap.size w w'
/-- The place in an ordered list. -/
theorem countP_cut {α : Type} {p : α → Bool} {F : List α} {k : Nat} (hk : k ≤ F.length) (h1 : ∀ (t : Nat) x, t < k → F[t]? = some x → p x = true) (h2 : ∀ (t : Nat) x, k ≤ t → F[t]? = some x → p x = false) : F.countP p = k := by
  have e : F.countP p = (F.take k).countP p + (F.drop k).countP p := by rw [← List.countP_append, List.take_append_drop]
  have e1 : (F.take k).countP p = k := by
    have : (F.take k).countP p = (F.take k).length := by
      rw [List.countP_eq_length]
      intro x hx
      obtain ⟨i, hi, rfl⟩ := List.mem_iff_getElem.1 hx
      rw [List.length_take] at hi
      exact h1 i _ (by omega) (by rw [List.getElem_take]; exact List.getElem?_eq_getElem (by omega))
    rw [this, List.length_take]
    omega
  have e2 : (F.drop k).countP p = 0 := by
    rw [List.countP_eq_zero]
    intro x hx
    obtain ⟨i, hi, rfl⟩ := List.mem_iff_getElem.1 hx
    rw [List.length_drop] at hi
    rw [List.getElem_drop]
    simpa using h2 (k + i) _ (by omega) (List.getElem?_eq_getElem (by omega))
  omega
end Go.Proofs.YtfnphchcgaebkaaGreat

/- The place of a shape in an ordered list: the library's search with the program's own test. -/
namespace Go.Proofs.YtfnphchcgaebkaaGreat
open Go.RowKit
set_option linter.unusedVariables false
attribute [local go_sem ↓] Go.wp_at_zero Go.wp_at_succ

theorem world_lt {w : World} {a : Addr} {v : Value} (h : w.cell? a = some v) : a.block < w.heap.size := World.block_lt_of_cell? w a h
set_option maxHeartbeats 800000 in
/-- The test: is the shape at place i not less than the one that is sought? -/
theorem putTest (b2 b3 : Nat) (A : Option Addr) (n c : Nat) (hs : List H) (F : List (List C)) (B : Option Addr) (m d : Nat) (f : List C) (i : Nat) (w : World) (hr : RdF w A n hs F) (hf : CRow w (B, m, d) f)
    (c2 : w.cell? ⟨b2, 0, none⟩ = some (.slice A n c)) (c3 : w.cell? ⟨b3, 0, none⟩ = some (.slice B m d)) (hi : i < n) (hl : ∀ x ∈ F, x.length ≤ 1048576) (hm : m ≤ 1048576) (b : Bool) (hv : b = !ltS (F.getD i default) f) :
    Calls Tryz.prog 85 #[.int .i64 (i : Int), .pointer (some ⟨b2, 0, none⟩), .pointer (some ⟨b3, 0, none⟩)] w (Ret w (.bool b)) := by
  obtain ⟨x, t, g, off, hsx, hfx, rfl, hg, c1, hrow⟩ := hr.at_ hi
  have ht : F.getD i default = t := by rw [List.getD_eq_getElem?_getD, hfx]; rfl
  have htl := hl t (List.mem_of_getElem? hfx)
  obtain ⟨C1, m1, k1⟩ := x
  have h1 : t.length = m1 := hrow.1
  have H1 := Lib.hid h1
  have HR := Lib.hid hrow
  have HF := Lib.hid hf
  have HB := Lib.hid (world_lt c2)
  have HB3 := Lib.hid (world_lt c3)
  have hb2 := HB.out
  have hb3 := HB3.out
  have hm1 : m1 ≤ 1048576 := by omega
  have hi0 : (0 : Int) ≤ (i : Int) := by omega
  have hi1 : (i : Int) < (n : Int) := by omega
  dsimp only at c1
  obtain ⟨v, hve⟩ : ∃ v, cmpS t f = v := ⟨_, rfl⟩
  have hb : b = decide (v ≥ 0) := by rw [hv, ht, ← hve, cmpS_neg]
  have HV := Lib.hid hve
  subst hb
  clear hv hve ht htl hsx hfx hrow hf h1 hr hl
  go_enter Tryz.func85, Tryz.ntmps85
  go_wp2_with fail
  (refine wp_region_below (by kernel_rfl) (by kernel_rfl) ?_; (repeat (first | go_big_quiet_skip | (refine quietV (v := ?_) (by rfl) rfl (fun w' hbw => ?_) ?_; rotate_left; ((try dsimp only at hbw); have hbc := (bcell hbw).1; have hbf := (bcell hbw).2; go_simp; first | done | with_reducible rfl | exact callsB (v := .int .i64 v) (by rw [← HV.out]; exact CompareShapes_i C1 B m1 k1 m d t f _ (HR.out.2.1.below hbw) (HF.out.2.1.below hbw) H1.out HF.out.1 (by omega) (by omega)) hbw); simp only [List.setIfInBounds_toArray, List.set_cons_zero, List.set_cons_succ]))); refine wpQuiet_nil ?_; intro wq hbq)
  go_wp2_with fail
  go_ret
  exact ⟨rfl, hbq⟩
set_option maxHeartbeats 1600000 in
theorem putSearch (b2 b3 : Nat) (A : Option Addr) (n c : Nat) (hs : List H) (F : List (List C)) (B : Option Addr) (m d : Nat) (f : List C) (w : World) (hr : RdF w A n hs F) (hf : CRow w (B, m, d) f)
    (c2 : w.cell? ⟨b2, 0, none⟩ = some (.slice A n c)) (c3 : w.cell? ⟨b3, 0, none⟩ = some (.slice B m d)) (hl : ∀ x ∈ F, x.length ≤ 1048576) (hm : m ≤ 1048576) (hn : n ≤ 1099511627776) (hi : IncG ltS F) :
    Calls Tryz.prog 84 #[.int .i64 (n : Int), .func (.func 85) #[] #[.pointer (some ⟨b2, 0, none⟩), .pointer (some ⟨b3, 0, none⟩)]] w (Ret w (.int .i64 (F.countP (fun x => ltS x f) : Nat))) := by
  have HL := Lib.hid hl
  have HI := Lib.hid hi
  have HR := Lib.hid hr
  have HF := Lib.hid hf
  have HN := Lib.hid hr.flen
  have HC2 := Lib.hid c2
  have HC3 := Lib.hid c3
  clear hl hi hr hf c2 c3
  go_enter Tryz.func84, Tryz.ntmps84
  go_wp2
  go_loopw [5, 6] (fun e5 e6 wr => ∃ (lo hi : Nat), e5 = .int .i64 lo ∧ e6 = .int .i64 hi ∧ lo ≤ hi ∧ hi ≤ n ∧ (∀ t, t < lo → ltS (F.getD t default) f = true) ∧ (∀ t, hi ≤ t → t < n → ltS (F.getD t default) f = false) ∧ Below w.heap.size w wr) (fun e5 e6 _ => (intOf e6).toNat - (intOf e5).toNat)
  case atStart => exact ⟨0, n, rfl, rfl, Nat.zero_le _, Nat.le_refl _, fun t h => absurd h (by omega), fun t h1 h2 => by omega, Below.refl _ _⟩
  case round =>
    obtain ⟨lo, hi, rfl, rfl, hlh, hin, hlow, hhigh, hb⟩ := hrel
    have HLO := Lib.hid hlow
    have HHI := Lib.hid hhigh
    clear hlow hhigh
    by_cases hlt : lo < hi
    · have hltI : (lo : Int) < (hi : Int) := by omega
      obtain ⟨k, hk⟩ : ∃ k, (lo + hi) / 2 = k := ⟨_, rfl⟩
      have hkI : ((lo : Int) + (hi : Int)) / 2 = (k : Int) := by rw [← hk]; simp
      have hk1 : lo ≤ k := by omega
      have hk2 : k < hi := by omega
      have HK := Lib.hid hk
      clear hk
      cases ht : ltS (F.getD k default) f with
      | true =>
        have HT := Lib.hid ht
        clear ht
        go_wp2_with fail
        refine (putTest b2 b3 A n c hs F B m d f k _ (HR.out.below hb) (HF.out.below hb) ((hb.cell (world_lt HC2.out)).trans HC2.out) ((hb.cell (world_lt HC3.out)).trans HC3.out) (by omega) HL.out hm false (by rw [HT.out]; rfl)).mono ?_
        rintro e w1 ⟨rfl, hb1⟩
        go_wp2_with fail
        refine ⟨⟨k + 1, hi, by go_num, rfl, by omega, hin, fun t h => ?_, HHI.out, bel_trans hb hb1⟩, by simp [intOf]; omega⟩
        cases he : ltS (F.getD t default) f with
        | true => rfl
        | false =>
          exfalso
          rcases Nat.lt_or_ge t k with h1 | h1
          · have := incG_get ltS_sto HI.out h1 (by rw [HN.out]; omega)
            rw [ltS_sto.trans this HT.out] at he
            cases he
          · obtain rfl : t = k := by omega
            rw [HT.out] at he
            cases he
      | false =>
        have HT := Lib.hid ht
        clear ht
        go_wp2_with fail
        refine (putTest b2 b3 A n c hs F B m d f k _ (HR.out.below hb) (HF.out.below hb) ((hb.cell (world_lt HC2.out)).trans HC2.out) ((hb.cell (world_lt HC3.out)).trans HC3.out) (by omega) HL.out hm true (by rw [HT.out]; rfl)).mono ?_
        rintro e w1 ⟨rfl, hb1⟩
        go_wp2_with fail
        refine ⟨⟨lo, k, rfl, rfl, hk1, by omega, HLO.out, fun t h1 h2 => ?_, bel_trans hb hb1⟩, by simp [intOf]; omega⟩
        cases he : ltS (F.getD t default) f with
        | false => rfl
        | true =>
          exfalso
          rcases Nat.lt_or_ge k t with h3 | h3
          · have := incG_get ltS_sto HI.out h3 (by rw [HN.out]; omega)
            have h4 := ltS_sto.trans this he
            rw [HT.out] at h4
            cases h4
          · obtain rfl : t = k := by omega
            rw [HT.out] at he
            cases he
    · obtain rfl : lo = hi := by omega
      have hltI : ¬ (lo : Int) < (lo : Int) := by omega
      have HV : Hid (F.countP (fun x => ltS x f) = lo) := countP_cut (by rw [HN.out]; exact hin)
        (fun t x h1 h2 => by have := HLO.out t h1; rwa [List.getD_eq_getElem?_getD, h2] at this)
        (fun t x h1 h2 => by have := HHI.out t h1 (by have := (List.getElem?_eq_some_iff.1 h2).1; rw [HN.out] at this; exact this); rwa [List.getD_eq_getElem?_getD, h2] at this)
      go_wp2
      go_ret
      exact ⟨by rw [HV.out]; rfl, hb⟩
end Go.Proofs.YtfnphchcgaebkaaGreat

/- A shape put into an ordered list, once: the program. -/
namespace Go.Proofs.YtfnphchcgaebkaaGreat
open Go.RowKit
set_option linter.unusedVariables false
attribute [local go_sem ↓] Go.wp_at_zero Go.wp_at_succ

theorem infoF : (Tryz.prog.info? 24).map (fun i => (i.zero, i.size, i.bytes)) = some (some (.slice none 0 0), 1, 24) := by kernel_rfl
section
variable (w : World) {ops : Array Oper} {rest : List Oper} {o : Oper} {a : Act} {Q : Exit → Act → World → Prop}
theorem app_F (hgd : o.guard = none) (s x : Operand) (ho : o.op = .call { callee := .builtin .append, args := #[s, x], argTypes := #[51, 51] })
    (base : Nat) (A : Option Addr) (n c : Nat) (l : List H) (hs : a.eval s = .slice A n c) (hown : w.ownsRow base 24 1 (.slice A n c) n (vS l))
    (A2 : Option Addr) (m c2 : Nat) (l2 : List H) (hx : a.eval x = .slice A2 m c2) (hr : Rd w A2 (vS l2)) (hl : l2.length = m) (hb : n + m ≤ 1099511627776) (hbase : base ≤ w.heap.size)
    (h : ∀ A' c' w', w'.ownsRow base 24 1 (.slice A' (n + m) c') (n + m) (vS (l ++ l2)) → w.grownBy w' (ob A) → (ob A' = ob A ∨ ob A' = some w.heap.size) → wpList Tryz.prog ops Q rest (a.put o.dst (.slice A' (n + m) c')) w') :
    wpList Tryz.prog ops Q (o :: rest) a w := by
  obtain ⟨i0, hi, hz0, hz1, hz2⟩ := info_parts infoF
  refine wpList_app w hgd s x _ ho base _ i0 _ 1 24 Tryz.underlying51 hi hz0 hz1 hz2 rfl (by omega) A n c _ hs hown A2 m c2 _ hx hr (by rw [vS_length, hl]; omega) (vS_one _) (by unfold maxLen; omega) (by omega) hbase ?_
  intro A' c' w' h1
  rw [← vS_append] at h1
  exact h A' c' w' h1
end
def offF (c k : Nat) : Nat := if c = k then 0 else k
theorem run_fromF (w : World) (g m c k : Nat) (hk : k ≤ m) : (Instr.slice 51 (.slice (some ⟨g, 0, none⟩) m c) (some (.int .i64 (k : Int))) none none).run Tryz.prog w = .ok (.slice (some ⟨g, offF c k, none⟩) (m - k) (c - k)) w := by
  have h1 : (0 : Int) ≤ (k : Int) := by omega
  have h2 : (k : Int) ≤ (m : Int) := by omega
  unfold offF
  by_cases hc : c = k
  · subst hc
    simp [go_sem, h2]
  · simp [go_sem, h2, hc]
/-- What lies behind place k moves on by one. -/
theorem run_shift (w : World) (base g n c k : Nat) (L : List H) (ho : w.ownsRow base 24 1 (.slice (some ⟨g, 0, none⟩) (n + 1) c) (n + 1) (vS L)) (hk : k ≤ n) (ty : TypeId) :
    ∃ w', (Builtin.copy_ #[51, 51] ty #[.slice (some ⟨g, offF c (k + 1), none⟩) (n + 1 - (k + 1)) (c - (k + 1)), .slice (some ⟨g, offF c k, none⟩) (n + 1 - k) (c - k)]).run Tryz.prog w = .ok (goInt ((n - k : Nat))) w' ∧
      w'.ownsRow base 24 1 (.slice (some ⟨g, 0, none⟩) (n + 1) c) (n + 1) (vS (L.take (k + 1) ++ (L.drop k).take (n - k))) ∧ w.grownBy w' (some g) := by
  have hlen : L.length = n + 1 := by have := own_len ho; rw [vS_length] at this; omega
  have hsz : (Tryz.prog.info? 24).map (·.size) = some 1 := by kernel_rfl
  by_cases hkn : k = n
  · subst hkn
    refine ⟨w, ?_, ?_, World.grownBy.refl _ _⟩
    · have := run_copy_none (P := Tryz.prog) w 51 51 ty 24 (some ⟨g, offF c (k + 1), none⟩) (some ⟨g, offF c k, none⟩) (k + 1 - (k + 1)) (c - (k + 1)) (k + 1 - k) (c - k) Tryz.underlying51 hsz (by simp)
      rw [this]
      simp
    · rw [Nat.sub_self, List.take_zero, List.append_nil, List.take_of_length_le (by omega)]
      exact ho
  · rcases ho.2 with ⟨hv, h0⟩ | ⟨g', cap, cur, hv, hbg, hg, hnc, hcm, hcs, ht⟩
    · omega
    · injection hv with hA hn hc
      injection hA with hA
      injection hA with hA1
      subst hA1 hc
      have hoff1 : offF c (k + 1) = k + 1 := by unfold offF; rw [if_neg (by omega)]
      have hoff2 : offF c k = k := by unfold offF; rw [if_neg (by omega)]
      have hcsl : (vS ((L.drop k).take (n - k))).length = n - k := by rw [vS_length, List.length_take, List.length_drop]; omega
      have hsrc : ∀ j v, (vS ((L.drop k).take (n - k)))[j]? = some v → w.cell? ((⟨g, k, none⟩ : Addr).add j) = some v := by
        intro j v hj
        have hjl : j < n - k := by rw [← hcsl]; exact (List.getElem?_eq_some_iff.1 hj).1
        have e : (⟨g, k, none⟩ : Addr).add j = ⟨g, k + j, none⟩ := by unfold Addr.add; split <;> simp_all
        rw [e]
        have hc := ho.cellAt (k + j) (by omega)
        rw [hc, ← hj]
        simp only [vS, List.getElem?_map, List.getElem?_take, List.getElem?_drop, if_pos hjl]
      have hr := run_copy_row (P := Tryz.prog) w 51 51 ty 24 g (k + 1) (n + 1 - (k + 1)) (c - (k + 1)) ⟨g, k, none⟩ (n + 1 - k) (c - k) cur 24 (vS ((L.drop k).take (n - k))) Tryz.underlying51 hsz hg
        (by rw [hcsl]; show n - k = min _ _; omega) hsrc (by rw [hcsl]; omega) (vS_one _)
      rw [hoff1, hoff2, hr, hcsl]
      refine ⟨_, rfl, ⟨?_, .inr ⟨g, c, _, rfl, hbg, setRow_heap w g cur _ _ _ hg, hnc, hcm, ?_, ?_⟩⟩, ⟨rfl, rfl, rfl, by simp [World.setRow], fun q hq hne => setRow_other w g q _ (fun e => hne (by rw [e]))⟩⟩
      · rw [vS_length, List.length_append, List.length_take, List.length_take, List.length_drop]; omega
      · simp only [List.size_toArray, List.length_append, List.length_take, List.length_drop, Array.length_toList]
        rw [hcsl]
        omega
      · have hcurl : cur.toList.length = c * 1 := by rw [Array.length_toList, hcs]
        have hk1 : cur.toList.take (k + 1) = vS (L.take (k + 1)) := by
          have h2 := congrArg (List.take (k + 1)) ht
          rw [List.take_take, Nat.min_eq_left (by omega)] at h2
          rw [h2]
          simp [vS]
        simp only [List.append_assoc]
        rw [hk1, vS_append]
        have hl1 : (vS (L.take (k + 1))).length = k + 1 := by rw [vS_length, List.length_take]; omega
        rw [← List.append_assoc, List.take_append_of_le_length (by rw [List.length_append, hl1, hcsl]; omega)]
        rw [List.take_of_length_le (by rw [List.length_append, hl1, hcsl]; omega)]
theorem wp_copyF {o : Oper} {a : Act} {w w' : World} {K : Act → World → Prop} {Q : Exit → Act → World → Prop} (d s : Operand) (dT sT : TypeId) (ho : o.op = .call { callee := .builtin .copy, args := #[d, s], argTypes := #[dT, sT] })
    {v1 v2 v : Value} (hd : a.eval d = v1) (hs : a.eval s = v2) (hrun : (Builtin.copy_ #[dT, sT] o.type #[v1, v2]).run Tryz.prog w = .ok v w') (hk : K (a.put o.dst v) w') : o.wp Tryz.prog a w K Q := by
  unfold Oper.wp
  simp [execOp, ho, resolve, invoke, builtin, hd, hs, hrun, Result.andThen]
  exact hk
theorem grown_comp2 {a w w' : World} {r r' : Option Nat} (h : a.grownBy w r) (h' : w.grownBy w' r') (hr : ∀ g, r' = some g → r = some g ∨ a.heap.size ≤ g) : a.grownBy w' r :=
  ⟨h'.os.trans h.os, h'.tape.trans h.tape, h'.output.trans h.output, Nat.le_trans h.size h'.size, fun k hk hne => (h'.block k (Nat.lt_of_lt_of_le hk h.size) (fun e => by
    rcases hr k e.symm with h1 | h1
    · exact hne h1.symm
    · omega)).trans (h.block k hk hne)⟩
theorem grown_of_below {w w' : World} (h : Below w.heap.size w w') (r : Option Nat) : w.grownBy w' r := ⟨h.os, h.tape, h.output, h.size, fun k hk _ => h.block k hk⟩
theorem grown_setC {a w : World} {r : Option Nat} (h : a.grownBy w r) {p : Addr} (hp : r = some p.block ∨ a.heap.size ≤ p.block) (u : Value) : a.grownBy (w.setCell p u) r :=
  ⟨h.os, h.tape, h.output, by simpa [World.setCell] using h.size, fun k hk hne => by
    rw [Below.heap_setCell w p u k (by
      rintro rfl
      rcases hp with h1 | h1
      · exact hne h1.symm
      · omega)]
    exact h.block k hk hne⟩
theorem ins_set {α : Type} (hs : List α) (z x : α) (n k : Nat) (hn : hs.length = n) (hk : k ≤ n) : (((hs ++ [z]).take (k + 1)) ++ ((hs ++ [z]).drop k).take (n - k)).set k x = hs.take k ++ [x] ++ hs.drop k := by
  have h1 : ((hs ++ [z]).drop k).take (n - k) = hs.drop k := by
    rw [List.drop_append_of_le_length (by omega), List.take_append_of_le_length (by rw [List.length_drop]; omega), List.take_of_length_le (by rw [List.length_drop]; omega)]
  have hkl : k < (hs ++ [z]).length := by simp; omega
  rw [h1, List.take_succ_eq_append_getElem hkl]
  have h2 : (hs ++ [z]).take k = hs.take k := List.take_append_of_le_length (by omega)
  rw [h2, List.append_assoc, List.set_append_right _ _ (by rw [List.length_take]; omega), List.length_take, Nat.min_eq_left (by omega), Nat.sub_self]
  simp
theorem ins_rows {α β : Type} {hs : List α} {F : List β} {k : Nat} (hl : hs.length = F.length) (hk : k ≤ F.length) {x0 : α} {f : β} (i : Nat) (x : α) (y : β) (h1 : (hs.take k ++ [x0] ++ hs.drop k)[i]? = some x) (h2 : (F.take k ++ [f] ++ F.drop k)[i]? = some y) :
    (∃ j : Nat, hs[j]? = some x ∧ F[j]? = some y) ∨ (x = x0 ∧ y = f) := by
  have e1 : (hs.take k).length = k := by rw [List.length_take]; omega
  have e2 : (F.take k).length = k := by rw [List.length_take]; omega
  rw [List.append_assoc] at h1 h2
  rcases Nat.lt_trichotomy i k with h | h | h
  · rw [List.getElem?_append_left (by omega), List.getElem?_take_of_lt h] at h1 h2
    exact .inl ⟨i, h1, h2⟩
  · subst h
    rw [List.getElem?_append_right (by omega), e1, Nat.sub_self] at h1
    rw [List.getElem?_append_right (by omega), e2, Nat.sub_self] at h2
    simp at h1 h2
    exact .inr ⟨h1.symm, h2.symm⟩
  · obtain ⟨j, rfl⟩ : ∃ j, i = k + 1 + j := ⟨i - (k + 1), by omega⟩
    rw [List.getElem?_append_right (by omega), e1, show k + 1 + j - k = j + 1 from by omega] at h1
    rw [List.getElem?_append_right (by omega), e2, show k + 1 + j - k = j + 1 from by omega] at h2
    simp only [List.singleton_append, List.getElem?_cons_succ, List.getElem?_drop] at h1 h2
    exact .inl ⟨_, h1, h2⟩
/-- The list with the shape put in. -/
def PutP (base : Nat) (w : World) (A : Option Addr) (F : List (List C)) (e : Ending) (w' : World) : Prop :=
  ∃ A' n' c' hs', e = .returned (.slice A' n' c') ∧ OwnF base w' A' n' c' hs' F ∧ w.grownBy w' (ob A) ∧ ∀ g, ob A' = some g → ob A = some g ∨ w.heap.size ≤ g
theorem putB_same {F : List (List C)} {f : List C} {k : Nat} (hk : F.countP (fun x => ltS x f) = k) (h1 : k < F.length) (h2 : F.getD k default = f) : putB ltS F f = F := by unfold putB; rw [hk, if_pos ⟨h1, h2⟩]
theorem putB_new {F : List (List C)} {f : List C} {k : Nat} (hk : F.countP (fun x => ltS x f) = k) (h1 : ¬ (k < F.length ∧ F.getD k default = f)) : putB ltS F f = F.take k ++ [f] ++ F.drop k := by unfold putB; rw [hk, if_neg h1]
set_option maxHeartbeats 3200000 in
theorem putShape_i (A : Option Addr) (n c : Nat) (hs : List H) (F : List (List C)) (B : Option Addr) (m d : Nat) (f : List C) (base : Nat) (w : World) (ho : OwnF base w A n c hs F) (hf : CRow w (B, m, d) f) (hi : IncG ltS F)
    (hl : ∀ x ∈ F, x.length ≤ 1048576) (hm : m ≤ 1048576) (hn : n ≤ 1073741824) (hbs : base ≤ w.heap.size) :
    Calls Tryz.prog 75 #[.slice A n c, .slice B m d] w (PutP base w A (putB ltS F f)) := by
  obtain ⟨k, hk⟩ : ∃ k, F.countP (fun x => ltS x f) = k := ⟨_, rfl⟩
  have hkn : k ≤ n := by rw [← hk, ← ho.flen]; exact List.countP_le_length
  have hAlt := own_lt ho.own
  have hB2 := (Blk.new w 51 #[.slice A n c]).alloc (.cells #[.slice B m d] 24)
  have hB3 : Blk ((w.alloc (.cells #[.slice A n c] 51)).alloc (.cells #[.slice B m d] 24)) (w.heap.size + 1) 24 #[.slice B m d] := by simpa using Blk.new (w.alloc (.cells #[.slice A n c] 51)) 24 #[.slice B m d]
  have hb0 : Below w.heap.size w ((w.alloc (.cells #[.slice A n c] 51)).alloc (.cells #[.slice B m d] 24)) := (by (repeat (first | with_reducible exact Below.refl _ _ | with_reducible assumption | with_reducible apply bel_alloc | with_reducible apply bel_drew | with_reducible apply bel_drewN | ((with_reducible refine bel_set ?_ ?_); rotate_left; (simp <;> omega)) | (with_reducible refine bel_trans ?_ (by with_reducible assumption)))))
  obtain ⟨W0, hW0⟩ : ∃ W0, (w.alloc (.cells #[.slice A n c] 51)).alloc (.cells #[.slice B m d] 24) = W0 := ⟨_, rfl⟩
  rw [hW0] at hB2 hB3 hb0
  have HS := putSearch w.heap.size (w.heap.size + 1) A n c hs F B m d f W0 (ho.rd.below hb0) (hf.below hb0) (by simpa using hB2.cell 0) (by simpa using hB3.cell 0) hl hm (by omega) hi
  rw [hk] at HS
  have HSE := Lib.hid HS
  have HO := Lib.hid ho
  have HF := Lib.hid hf
  have HK := Lib.hid hk
  have HL := Lib.hid hl
  have HB2 := Lib.hid hB2
  have HB3 := Lib.hid hB3
  have HW := Lib.hid hW0
  have HFL := Lib.hid ho.flen
  have HA := Lib.hid hAlt
  have hz0 := hb0.size
  clear HS ho hf hk hl hB2 hB3 hW0 hAlt hi
  go_enter Tryz.func75, Tryz.ntmps75
  go_wp2_with fail
  rw [HW.out]
  refine HSE.out.mono ?_
  rintro e w1 ⟨rfl, hb1⟩
  have hb01 := bel_trans hb0 hb1
  have HX2 := Lib.hid (HB2.out.below hb1)
  have HX3 := Lib.hid (HB3.out.below hb1)
  have c2 : w1.cell? ⟨w.heap.size, 0, none⟩ = some (.slice A n c) := by simpa using HX2.out.cell 0
  have c3 : w1.cell? ⟨w.heap.size + 1, 0, none⟩ = some (.slice B m d) := by simpa using HX3.out.cell 0
  have l2 := HX2.out.lt
  have l3 := HX3.out.lt
  have HO1 := Lib.hid (HO.out.below hb01)
  have HF1 := Lib.hid (HF.out.below hb01)
  by_cases hkk : k < n
  · obtain ⟨x, t, g, off, hsx, hfx, hAg, hg, d1, hrow⟩ := HO1.out.rd.at_ hkk
    have ht : F.getD k default = t := by rw [List.getD_eq_getElem?_getD, hfx]; rfl
    have htl := HL.out t (List.mem_of_getElem? hfx)
    obtain ⟨C1, m1, k1⟩ := x
    have h1 : t.length = m1 := hrow.1
    have H1 := Lib.hid h1
    have HR := Lib.hid hrow
    have hm1 : m1 ≤ 1048576 := by omega
    have hk0 : (0 : Int) ≤ (k : Int) := by omega
    have hkI : (k : Int) < (n : Int) := by omega
    dsimp only at d1
    by_cases htf : t = f
    · have HV := Lib.hid (putB_same HK.out (by rw [HFL.out]; exact hkk) (ht.trans htf))
      have HD : Hid (decide (t = f) = true) := decide_eq_true htf
      subst hAg
      clear ht htf hsx hfx hrow h1 htl
      go_wp2_with fail
      (refine wp_region_below (by kernel_rfl) (by kernel_rfl) ?_; (repeat (first | go_big_quiet_skip | (refine quietV (v := ?_) (by rfl) rfl (fun w' hbw => ?_) ?_; rotate_left; ((try dsimp only at hbw); have hbc := (bcell hbw).1; have hbf := (bcell hbw).2; go_simp; first | done | with_reducible rfl | exact callsBB (EqualShapes_i C1 B m1 k1 m d t f _ (HR.out.2.1.below hbw) (HF1.out.2.1.below hbw) H1.out HF1.out.1 (by omega) (by omega)) HD.out hbw); simp only [List.setIfInBounds_toArray, List.set_cons_zero, List.set_cons_succ]))); refine wpQuiet_nil ?_; intro wq hbq)
      have c2q : wq.cell? ⟨w.heap.size, 0, none⟩ = some (.slice (some ⟨g, off, none⟩) n c) := by simpa using (HX2.out.below hbq).cell 0
      have l2q := (HX2.out.below hbq).lt
      clear c2 c3 l2 l3
      go_wp2_with fail
      go_ret
      exact ⟨_, n, c, hs, rfl, by rw [HV.out]; exact HO1.out.below hbq, grown_of_below (bel_trans hb01 hbq) _, fun g e => .inl e⟩
    · have HV := Lib.hid (putB_new HK.out (fun h => htf (ht.symm.trans h.2)))
      have HD : Hid (decide (t = f) = false) := decide_eq_false htf
      have HAG := Lib.hid hAg
      rw [hAg] at c2
      have hkd : decide (k < n) = true := by simp [hkk]
      clear ht htf hsx hfx hrow h1 htl hAg
      go_wp2_with fail
      (refine wp_region_below (by kernel_rfl) (by kernel_rfl) ?_; (repeat (first | go_big_quiet_skip | (refine quietV (v := ?_) (by rfl) rfl (fun w' hbw => ?_) ?_; rotate_left; ((try dsimp only at hbw); have hbc := (bcell hbw).1; have hbf := (bcell hbw).2; go_simp; first | done | with_reducible rfl | exact callsBB (EqualShapes_i C1 B m1 k1 m d t f _ (HR.out.2.1.below hbw) (HF1.out.2.1.below hbw) H1.out HF1.out.1 (by omega) (by omega)) HD.out hbw); simp only [List.setIfInBounds_toArray, List.set_cons_zero, List.set_cons_succ]))); refine wpQuiet_nil ?_; intro wq hbq)
      clear d1 hkd
      rw [← HAG.out] at c2 ⊢
      have hb0q := bel_trans hb01 hbq
      have hz1 := hb0q.size
      have HX2q := Lib.hid (HX2.out.below hbq)
      have HX3q := Lib.hid (HX3.out.below hbq)
      have HOq := Lib.hid (HO1.out.below hbq)
      have c2q : wq.cell? ⟨w.heap.size, 0, none⟩ = some (.slice A n c) := by simpa using HX2q.out.cell 0
      have z2q := HX2q.out.frozen 0
      have l2q := HX2q.out.lt
      clear c2 c3 l2 l3
      go_wp2_with (at_builtin; go_must (refine app_F _ rfl _ _ rfl base _ _ _ hs rfl (HOq.out.own.alloc _) _ _ _ [(none, 0, 0)] rfl (rd_newS _ _ _) rfl (by omega) (by simp; omega) ?_); intro A3 c5 w3 ho3 hg3 hat3; have HO3 := Lib.hid ho3; have HG3 := Lib.hid hg3; have HAT := Lib.hid hat3; have hX3 := (HX2q.out.alloc (.cells #[.slice none 0 0] 24)).grown hg3 (fun e => by have := (HA.out _ e.symm).2; omega); have e2 : w3.cell? ⟨w.heap.size, 0, none⟩ = some (.slice A n c) := (by simpa using hX3.cell 0); have f2 := hX3.frozen 0; have l4 := hX3.lt; have HX4 := Lib.hid (hX3.set_ 0 (.slice A3 (n + 1) c5)); have HY4 := Lib.hid (((HX3q.out.alloc (.cells #[.slice none 0 0] 24)).grown hg3 (fun e => by have := (HA.out _ e.symm).2; omega)).far (p := ⟨w.heap.size, 0, none⟩) (by simp) (.slice A3 (n + 1) c5)); clear hX3 ho3 hg3 hat3)
      obtain ⟨g3, hA3, hbg3, hg3l⟩ := own_at HO3.out (by omega)
      subst hA3
      have hg3n : g3 ≠ w.heap.size ∧ g3 ≠ w.heap.size + 1 := by
        rcases HAT.out with h | h
        · have := (HA.out g3 h.symm).2; omega
        · simp only [ob, Option.map_some, Option.some.injEq, World.size_alloc] at h; omega
      obtain ⟨hg3n, hg3m⟩ := hg3n
      have HO4 := Lib.hid (own_set HO3.out (p := ⟨w.heap.size, 0, none⟩) (fun g e => by simp only [ob, Option.map_some, Option.some.injEq] at e; subst e; exact hg3n) (.slice (some ⟨g3, 0, none⟩) (n + 1) c5))
      have HG4 : Hid (w.grownBy (w3.setCell ⟨w.heap.size, 0, none⟩ (.slice (some ⟨g3, 0, none⟩) (n + 1) c5)) (ob A)) :=
        grown_setC (grown_comp2 (grown_of_below (bel_alloc hb0q _) (ob A)) HG3.out (fun g h => .inl h)) (.inr (Nat.le_refl _)) _
      have HR4 : Hid (∀ x t, CRow wq x t → CRow (w3.setCell ⟨w.heap.size, 0, none⟩ (.slice (some ⟨g3, 0, none⟩) (n + 1) c5)) x t) := fun x t h =>
        ((h.below (bel_alloc (Below.refl _ _) _)).grown HG3.out (fun g e r => (h.apart HOq.out.own) g e r)).grown (grown_set (World.grownBy.refl _ (some w.heap.size)) rfl _) (fun g e r => by
          injection r with r
          obtain ⟨cur, z, h1⟩ := h.2.2 g e
          have h2 := HX2q.out
          unfold Blk at h2
          rw [r, h1] at h2
          injection h2 with h2
          injection h2 with _ h3
          exact absurd h3 (by decide))
      obtain ⟨w4, hw4⟩ : ∃ w4, w3.setCell ⟨w.heap.size, 0, none⟩ (.slice (some ⟨g3, 0, none⟩) (n + 1) c5) = w4 := ⟨_, rfl⟩
      rw [hw4] at HX4 HY4 HO4 HG4 HR4 ⊢
      have d2 : w4.cell? ⟨w.heap.size, 0, none⟩ = some (.slice (some ⟨g3, 0, none⟩) (n + 1) c5) := by simpa using HX4.out.cell 0
      have l6 := HX4.out.lt
      have hk0 : (0 : Int) ≤ (k : Int) := by omega
      obtain ⟨k1, hk1⟩ : ∃ k1 : Nat, k + 1 = k1 := ⟨_, rfl⟩
      have hk1I : (k : Int) + 1 = (k1 : Int) := by omega
      have hk1w : IntKind.i64.wrap (k1 : Int) = (k1 : Int) := Go.IntWalk.i64_in _ (by omega)
      have hs1 : ∀ w', (Instr.slice 51 (.slice (some ⟨g3, 0, none⟩) (n + 1) c5) (some (.int .i64 (k1 : Int))) none none).run Tryz.prog w' = .ok (.slice (some ⟨g3, offF c5 k1, none⟩) (n + 1 - k1) (c5 - k1)) w' := fun w' => run_fromF w' g3 (n + 1) c5 k1 (by omega)
      have hs2 : ∀ w', (Instr.slice 51 (.slice (some ⟨g3, 0, none⟩) (n + 1) c5) (some (.int .i64 (k : Int))) none none).run Tryz.prog w' = .ok (.slice (some ⟨g3, offF c5 k, none⟩) (n + 1 - k) (c5 - k)) w' := fun w' => run_fromF w' g3 (n + 1) c5 k (by omega)
      have HK1 := Lib.hid hk1
      clear hk1 hw4 e2 f2 l4
      go_wp2_with fail
      (refine wp_region_tailN (C := Gr w4 (some ⟨g3, 0, none⟩)) 7 (by kernel_rfl) (by kernel_rfl) (Gr.drawn _ _) (fun _ _ h k => h.ext k) ?_; simp only [List.take_succ_cons, List.take_zero, List.drop_succ_cons, List.drop_zero]; (repeat (first | (refine headSkip (by rfl) rfl ?_; simp only [List.setIfInBounds_toArray, List.set_cons_zero, List.set_cons_succ]) | (refine headV (v := ?_) (by rfl) rfl (fun w' hcw => ?_) ?_; rotate_left; ((try dsimp only at hcw); have hbc := hcw.cells; go_simp; first | done | with_reducible rfl | (have hcc := hcw.cell l6 (by simp [ob]; exact fun e => hg3n e.symm) 0; go_simp; first | done | with_reducible rfl)); simp only [List.setIfInBounds_toArray, List.set_cons_zero, List.set_cons_succ]))); unfold wpHead)
      refine tailK (by rfl) (fun u5 hc5 he5 K hK => ?_)
      obtain ⟨w5, hrun, ho5, hg5⟩ := run_shift u5 base g3 n c5 k (hs ++ [(none, 0, 0)]) (own_keep HO4.out he5) hkn 3
      rw [HK1.out] at hrun
      refine wp_copyF _ _ _ _ rfl rfl rfl hrun ?_
      refine hK _ _ (Gr.trans hc5 hg5) ?_
      clear hK K hrun
      simp only [Act.put, List.setIfInBounds_toArray, List.set_cons_zero, List.set_cons_succ]
      (refine fun w6 hc6 he6 => NoPanic.normal ?_)
      have HO6 := Lib.hid (own_keep ho5 he6)
      have HG6 : Hid (w4.grownBy w6 (some g3)) := hc6
      have HX6 := Lib.hid (HX4.out.grown HG6.out (fun e => by injection e with e; exact hg3n e.symm))
      have HY6 := Lib.hid (HY4.out.grown HG6.out (fun e => by injection e with e; exact hg3m e.symm))
      have b2 : w6.cell? ⟨w.heap.size, 0, none⟩ = some (.slice (some ⟨g3, 0, none⟩) (n + 1) c5) := by simpa using HX6.out.cell 0
      have b3 : w6.cell? ⟨w.heap.size + 1, 0, none⟩ = some (.slice B m d) := by simpa using HY6.out.cell 0
      have l7 := HX6.out.lt
      have l8 := HY6.out.lt
      have hck := HO6.out.cellAt k (by omega)
      have hkl : k < (vS (List.take (k + 1) (hs ++ [(none, 0, 0)]) ++ List.take (n - k) (List.drop k (hs ++ [(none, 0, 0)])))).length := by
        have := own_len HO6.out; omega
      rw [List.getElem?_eq_getElem hkl] at hck
      generalize (vS (List.take (k + 1) (hs ++ [(none, 0, 0)]) ++ List.take (n - k) (List.drop k (hs ++ [(none, 0, 0)]))))[k] = z at hck
      have hfk := HO6.out.frozenAt k
      have hg6l := own_lt HO6.out g3 rfl
      have hst := (HO6.out.stored k (.slice B m d)).1
      rw [show (vS (List.take (k + 1) (hs ++ [(none, 0, 0)]) ++ List.take (n - k) (List.drop k (hs ++ [(none, 0, 0)])))).set k (.slice B m d) = vS (hs.take k ++ [(B, m, d)] ++ hs.drop k) from by rw [← ins_set hs (none, 0, 0) (B, m, d) n k HO.out.hlen hkn]; simp [vS, List.map_set, hd]] at hst
      have HST := Lib.hid hst
      obtain ⟨hg6a, hg6b⟩ := hg6l
      have hkI2 : (k : Int) < (n : Int) + 1 := by omega
      have HRW : Hid (∀ x t, CRow wq x t → CRow (w6.setCell ⟨g3, k, none⟩ (.slice B m d)) x t) := fun x t h => by
        have h4 := HR4.out x t h
        have ne := h4.apart HO4.out
        exact (h4.grown HG6.out (fun g e r => ne g e r)).grown (grown_set (World.grownBy.refl _ (some g3)) rfl _) (fun g e r => ne g e r)
      have HGW : Hid (w.grownBy (w6.setCell ⟨g3, k, none⟩ (.slice B m d)) (ob A)) := by
        have hh : ob A = some g3 ∨ w.heap.size ≤ g3 := by
          rcases HAT.out with h | h
          · exact .inl h.symm
          · simp only [ob, Option.map_some, Option.some.injEq, World.size_alloc] at h; right; omega
        exact grown_setC (grown_comp2 HG4.out HG6.out (fun g h => by injection h with h; subst h; exact hh)) hh _
      clear hst hc5 he5 ho5 hg5 hc6 he6 d2 l6 hs1 hs2
      go_wp2_with fail
      go_ret
      refine ⟨some ⟨g3, 0, none⟩, n + 1, c5, hs.take k ++ [(B, m, d)] ++ hs.drop k, rfl, ⟨HST.out, ?_, ?_⟩, HGW.out, ?_⟩
      · rw [HV.out]; simp only [List.length_append, List.length_take, List.length_drop, List.length_cons, List.length_nil, HFL.out]; omega
      · intro i x t h1 h2
        rw [HV.out] at h2
        rcases ins_rows (by rw [HO.out.hlen, HFL.out]) (by rw [HFL.out]; exact hkn) i x t h1 h2 with ⟨j, h3, h4⟩ | ⟨h3, h4⟩
        · exact HRW.out x t (HOq.out.row j x t h3 h4)
        · subst h3 h4
          exact HRW.out _ _ (HF1.out.below hbq)
      · intro g e
        rcases HAT.out with h | h
        · exact .inl (h ▸ e)
        · rw [h] at e
          simp only [World.size_alloc, Option.some.injEq] at e
          right; omega
  · have HV := Lib.hid (putB_new HK.out (fun h => hkk (by have := h.1; rwa [HFL.out] at this)))
    have hkd : decide (k < n) = false := by simp; omega
    have hkI : ¬ (k : Int) < (n : Int) := by omega
    go_wp2_with fail
    (refine wp_region_below (by kernel_rfl) (by kernel_rfl) ?_; (repeat (first | go_big_quiet_skip | (refine quietV (v := ?_) (by rfl) rfl (fun w' hbw => ?_) ?_; rotate_left; ((try dsimp only at hbw); have hbc := (bcell hbw).1; have hbf := (bcell hbw).2; go_simp; first | done | with_reducible rfl | fail); simp only [List.setIfInBounds_toArray, List.set_cons_zero, List.set_cons_succ]))); refine wpQuiet_nil ?_; intro wq hbq)
    clear hkd hkI hkk
    have hb0q := bel_trans hb01 hbq
    have hz1 := hb0q.size
    have HX2q := Lib.hid (HX2.out.below hbq)
    have HX3q := Lib.hid (HX3.out.below hbq)
    have HOq := Lib.hid (HO1.out.below hbq)
    have c2q : wq.cell? ⟨w.heap.size, 0, none⟩ = some (.slice A n c) := by simpa using HX2q.out.cell 0
    have z2q := HX2q.out.frozen 0
    have l2q := HX2q.out.lt
    clear c2 c3 l2 l3
    go_wp2_with (at_builtin; go_must (refine app_F _ rfl _ _ rfl base _ _ _ hs rfl (HOq.out.own.alloc _) _ _ _ [(none, 0, 0)] rfl (rd_newS _ _ _) rfl (by omega) (by simp; omega) ?_); intro A3 c5 w3 ho3 hg3 hat3; have HO3 := Lib.hid ho3; have HG3 := Lib.hid hg3; have HAT := Lib.hid hat3; have hX3 := (HX2q.out.alloc (.cells #[.slice none 0 0] 24)).grown hg3 (fun e => by have := (HA.out _ e.symm).2; omega); have e2 : w3.cell? ⟨w.heap.size, 0, none⟩ = some (.slice A n c) := (by simpa using hX3.cell 0); have f2 := hX3.frozen 0; have l4 := hX3.lt; have HX4 := Lib.hid (hX3.set_ 0 (.slice A3 (n + 1) c5)); have HY4 := Lib.hid (((HX3q.out.alloc (.cells #[.slice none 0 0] 24)).grown hg3 (fun e => by have := (HA.out _ e.symm).2; omega)).far (p := ⟨w.heap.size, 0, none⟩) (by simp) (.slice A3 (n + 1) c5)); clear hX3 ho3 hg3 hat3)
    obtain ⟨g3, hA3, hbg3, hg3l⟩ := own_at HO3.out (by omega)
    subst hA3
    have hg3n : g3 ≠ w.heap.size ∧ g3 ≠ w.heap.size + 1 := by
      rcases HAT.out with h | h
      · have := (HA.out g3 h.symm).2; omega
      · simp only [ob, Option.map_some, Option.some.injEq, World.size_alloc] at h; omega
    obtain ⟨hg3n, hg3m⟩ := hg3n
    have HO4 := Lib.hid (own_set HO3.out (p := ⟨w.heap.size, 0, none⟩) (fun g e => by simp only [ob, Option.map_some, Option.some.injEq] at e; subst e; exact hg3n) (.slice (some ⟨g3, 0, none⟩) (n + 1) c5))
    have HG4 : Hid (w.grownBy (w3.setCell ⟨w.heap.size, 0, none⟩ (.slice (some ⟨g3, 0, none⟩) (n + 1) c5)) (ob A)) :=
      grown_setC (grown_comp2 (grown_of_below (bel_alloc hb0q _) (ob A)) HG3.out (fun g h => .inl h)) (.inr (Nat.le_refl _)) _
    have HR4 : Hid (∀ x t, CRow wq x t → CRow (w3.setCell ⟨w.heap.size, 0, none⟩ (.slice (some ⟨g3, 0, none⟩) (n + 1) c5)) x t) := fun x t h =>
      ((h.below (bel_alloc (Below.refl _ _) _)).grown HG3.out (fun g e r => (h.apart HOq.out.own) g e r)).grown (grown_set (World.grownBy.refl _ (some w.heap.size)) rfl _) (fun g e r => by
        injection r with r
        obtain ⟨cur, z, h1⟩ := h.2.2 g e
        have h2 := HX2q.out
        unfold Blk at h2
        rw [r, h1] at h2
        injection h2 with h2
        injection h2 with _ h3
        exact absurd h3 (by decide))
    obtain ⟨w4, hw4⟩ : ∃ w4, w3.setCell ⟨w.heap.size, 0, none⟩ (.slice (some ⟨g3, 0, none⟩) (n + 1) c5) = w4 := ⟨_, rfl⟩
    rw [hw4] at HX4 HY4 HO4 HG4 HR4 ⊢
    have d2 : w4.cell? ⟨w.heap.size, 0, none⟩ = some (.slice (some ⟨g3, 0, none⟩) (n + 1) c5) := by simpa using HX4.out.cell 0
    have l6 := HX4.out.lt
    have hk0 : (0 : Int) ≤ (k : Int) := by omega
    obtain ⟨k1, hk1⟩ : ∃ k1 : Nat, k + 1 = k1 := ⟨_, rfl⟩
    have hk1I : (k : Int) + 1 = (k1 : Int) := by omega
    have hk1w : IntKind.i64.wrap (k1 : Int) = (k1 : Int) := Go.IntWalk.i64_in _ (by omega)
    have hs1 : ∀ w', (Instr.slice 51 (.slice (some ⟨g3, 0, none⟩) (n + 1) c5) (some (.int .i64 (k1 : Int))) none none).run Tryz.prog w' = .ok (.slice (some ⟨g3, offF c5 k1, none⟩) (n + 1 - k1) (c5 - k1)) w' := fun w' => run_fromF w' g3 (n + 1) c5 k1 (by omega)
    have hs2 : ∀ w', (Instr.slice 51 (.slice (some ⟨g3, 0, none⟩) (n + 1) c5) (some (.int .i64 (k : Int))) none none).run Tryz.prog w' = .ok (.slice (some ⟨g3, offF c5 k, none⟩) (n + 1 - k) (c5 - k)) w' := fun w' => run_fromF w' g3 (n + 1) c5 k (by omega)
    have HK1 := Lib.hid hk1
    clear hk1 hw4 e2 f2 l4
    go_wp2_with fail
    (refine wp_region_tailN (C := Gr w4 (some ⟨g3, 0, none⟩)) 7 (by kernel_rfl) (by kernel_rfl) (Gr.drawn _ _) (fun _ _ h k => h.ext k) ?_; simp only [List.take_succ_cons, List.take_zero, List.drop_succ_cons, List.drop_zero]; (repeat (first | (refine headSkip (by rfl) rfl ?_; simp only [List.setIfInBounds_toArray, List.set_cons_zero, List.set_cons_succ]) | (refine headV (v := ?_) (by rfl) rfl (fun w' hcw => ?_) ?_; rotate_left; ((try dsimp only at hcw); have hbc := hcw.cells; go_simp; first | done | with_reducible rfl | (have hcc := hcw.cell l6 (by simp [ob]; exact fun e => hg3n e.symm) 0; go_simp; first | done | with_reducible rfl)); simp only [List.setIfInBounds_toArray, List.set_cons_zero, List.set_cons_succ]))); unfold wpHead)
    refine tailK (by rfl) (fun u5 hc5 he5 K hK => ?_)
    obtain ⟨w5, hrun, ho5, hg5⟩ := run_shift u5 base g3 n c5 k (hs ++ [(none, 0, 0)]) (own_keep HO4.out he5) hkn 3
    rw [HK1.out] at hrun
    refine wp_copyF _ _ _ _ rfl rfl rfl hrun ?_
    refine hK _ _ (Gr.trans hc5 hg5) ?_
    clear hK K hrun
    simp only [Act.put, List.setIfInBounds_toArray, List.set_cons_zero, List.set_cons_succ]
    (refine fun w6 hc6 he6 => NoPanic.normal ?_)
    have HO6 := Lib.hid (own_keep ho5 he6)
    have HG6 : Hid (w4.grownBy w6 (some g3)) := hc6
    have HX6 := Lib.hid (HX4.out.grown HG6.out (fun e => by injection e with e; exact hg3n e.symm))
    have HY6 := Lib.hid (HY4.out.grown HG6.out (fun e => by injection e with e; exact hg3m e.symm))
    have b2 : w6.cell? ⟨w.heap.size, 0, none⟩ = some (.slice (some ⟨g3, 0, none⟩) (n + 1) c5) := by simpa using HX6.out.cell 0
    have b3 : w6.cell? ⟨w.heap.size + 1, 0, none⟩ = some (.slice B m d) := by simpa using HY6.out.cell 0
    have l7 := HX6.out.lt
    have l8 := HY6.out.lt
    have hck := HO6.out.cellAt k (by omega)
    have hkl : k < (vS (List.take (k + 1) (hs ++ [(none, 0, 0)]) ++ List.take (n - k) (List.drop k (hs ++ [(none, 0, 0)])))).length := by
      have := own_len HO6.out; omega
    rw [List.getElem?_eq_getElem hkl] at hck
    generalize (vS (List.take (k + 1) (hs ++ [(none, 0, 0)]) ++ List.take (n - k) (List.drop k (hs ++ [(none, 0, 0)]))))[k] = z at hck
    have hfk := HO6.out.frozenAt k
    have hg6l := own_lt HO6.out g3 rfl
    have hst := (HO6.out.stored k (.slice B m d)).1
    rw [show (vS (List.take (k + 1) (hs ++ [(none, 0, 0)]) ++ List.take (n - k) (List.drop k (hs ++ [(none, 0, 0)])))).set k (.slice B m d) = vS (hs.take k ++ [(B, m, d)] ++ hs.drop k) from by rw [← ins_set hs (none, 0, 0) (B, m, d) n k HO.out.hlen hkn]; simp [vS, List.map_set, hd]] at hst
    have HST := Lib.hid hst
    obtain ⟨hg6a, hg6b⟩ := hg6l
    have hkI2 : (k : Int) < (n : Int) + 1 := by omega
    have HRW : Hid (∀ x t, CRow wq x t → CRow (w6.setCell ⟨g3, k, none⟩ (.slice B m d)) x t) := fun x t h => by
      have h4 := HR4.out x t h
      have ne := h4.apart HO4.out
      exact (h4.grown HG6.out (fun g e r => ne g e r)).grown (grown_set (World.grownBy.refl _ (some g3)) rfl _) (fun g e r => ne g e r)
    have HGW : Hid (w.grownBy (w6.setCell ⟨g3, k, none⟩ (.slice B m d)) (ob A)) := by
      have hh : ob A = some g3 ∨ w.heap.size ≤ g3 := by
        rcases HAT.out with h | h
        · exact .inl h.symm
        · simp only [ob, Option.map_some, Option.some.injEq, World.size_alloc] at h; right; omega
      exact grown_setC (grown_comp2 HG4.out HG6.out (fun g h => by injection h with h; subst h; exact hh)) hh _
    clear hst hc5 he5 ho5 hg5 hc6 he6 d2 l6 hs1 hs2
    go_wp2_with fail
    go_ret
    refine ⟨some ⟨g3, 0, none⟩, n + 1, c5, hs.take k ++ [(B, m, d)] ++ hs.drop k, rfl, ⟨HST.out, ?_, ?_⟩, HGW.out, ?_⟩
    · rw [HV.out]; simp only [List.length_append, List.length_take, List.length_drop, List.length_cons, List.length_nil, HFL.out]; omega
    · intro i x t h1 h2
      rw [HV.out] at h2
      rcases ins_rows (by rw [HO.out.hlen, HFL.out]) (by rw [HFL.out]; exact hkn) i x t h1 h2 with ⟨j, h3, h4⟩ | ⟨h3, h4⟩
      · exact HRW.out x t (HOq.out.row j x t h3 h4)
      · subst h3 h4
        exact HRW.out _ _ (HF1.out.below hbq)
    · intro g e
      rcases HAT.out with h | h
      · exact .inl (h ▸ e)
      · rw [h] at e
        simp only [World.size_alloc, Option.some.injEq] at e
        right; omega
end Go.Proofs.YtfnphchcgaebkaaGreat

/- Steps of a region that draws its order, with the rest named. -/
namespace Go.Proofs.YtfnphchcgaebkaaGreat
open Go.RowKit
set_option linter.unusedVariables false
section
variable {P : Program} {ops : Array Oper} {md : Region.Mode} {C : World → Prop} {Q : Exit → Act → World → Prop}
theorem rgK_one {f i : Nat} {o : Oper} {listed : Array Bool} {a : Act} {w : World} (hr : Region.ready md ops listed = [i]) (hi : ops[i]? = some o) (hg : o.guard = none)
    (h : ∀ w', C w' → Ext w w' → ∀ K : Act → World → Prop, (∀ a' w'', C w'' → wpRg P md ops C Q f (listed.setIfInBounds i true) a' w'' → K a' w'') → o.wp P a w' K Q) : wpRg P md ops C Q (f + 1) listed a w :=
  rg_one hr hi hg fun w' hc he => h w' hc he _ fun _ _ h1 h2 => ⟨h1, h2⟩
theorem rgK_two {f i k : Nat} {o o2 : Oper} {listed : Array Bool} {a : Act} {w : World} (hr : Region.ready md ops listed = [i, k]) (hi : ops[i]? = some o) (hg : o.guard = none) (hk : ops[k]? = some o2) (hg2 : o2.guard = none)
    (h : ∀ w', C w' → Ext w w' → ∀ K : Act → World → Prop, (∀ a' w'', C w'' → wpRg P md ops C Q f (listed.setIfInBounds i true) a' w'' → K a' w'') → o.wp P a w' K Q)
    (h2 : ∀ w', C w' → Ext w w' → ∀ K : Act → World → Prop, (∀ a' w'', C w'' → wpRg P md ops C Q f (listed.setIfInBounds k true) a' w'' → K a' w'') → o2.wp P a w' K Q) : wpRg P md ops C Q (f + 1) listed a w :=
  rg_two hr hi hg hk hg2 (fun w' hc he => h w' hc he _ fun _ _ h1 h2 => ⟨h1, h2⟩) (fun w' hc he => h2 w' hc he _ fun _ _ h1 h2 => ⟨h1, h2⟩)
/-- An operation whose guard does not hold is taken first. -/
theorem rgS {i d : Nat} {oi : Oper} {f : Nat} {listed : Array Bool} {ts : Array Value} {ds : List Deferred} {w w0 : World} (hi : ops[i]? = some oi) (hd : oi.dst = some d)
    (hs : Region.noSelect ops = true) (hf : Region.free .any ops listed i = true) (hr : (Region.ready .any ops listed).contains i = true) (hw : Region.wanted oi (yielded ops ts) = false)
    (h : wpRg P .any ops (ExC w0) (NoPanic Q) f (listed.setIfInBounds i true) { tmps := ts.setIfInBounds d undef, defers := ds } w) : wpRg P .any ops (ExC w0) (NoPanic Q) (f + 1) listed { tmps := ts, defers := ds } w :=
  wpRg_first (v := undef) (fun _ _ h k => h.ext k) hi (Region.noSelect_spec hs) (fun _ _ _ h => h) f listed _ w (Region.free_spec hi hf) (by simpa using hr) (.inr ⟨hw, rfl⟩) (by rw [hd]; exact h)
end
end Go.Proofs.YtfnphchcgaebkaaGreat

/- The shapes with one cell more: the program. -/
namespace Go.Proofs.YtfnphchcgaebkaaGreat
open Go.RowKit
set_option linter.unusedVariables false
attribute [local go_sem ↓] Go.wp_at_zero Go.wp_at_succ

theorem sides_i (x y : Int) (w : World) (h : -100 ≤ x ∧ x ≤ 100 ∧ -100 ≤ y ∧ y ≤ 100) : Calls Tryz.prog 83 #[.agg #[.int .i64 x, .int .i64 y]] w (RetS w 40 2 (vC (sidesV (x, y)))) := by
  obtain ⟨h1, h2, h3, h4⟩ := h
  have e1 : IntKind.i64.wrap (y - 1) = y - 1 := Go.IntWalk.i64_in _ (by omega)
  have e2 : IntKind.i64.wrap (x - 1) = x - 1 := Go.IntWalk.i64_in _ (by omega)
  have e3 : IntKind.i64.wrap (x + 1) = x + 1 := Go.IntWalk.i64_in _ (by omega)
  have e4 : IntKind.i64.wrap (y + 1) = y + 1 := Go.IntWalk.i64_in _ (by omega)
  have ho : ((w.alloc (.cells #[.int .i64 x, .int .i64 y] 40)).alloc (.cells #[.int .i64 x, .int .i64 (y - 1), .int .i64 (x - 1), .int .i64 y, .int .i64 (x + 1), .int .i64 y, .int .i64 x, .int .i64 (y + 1)] 40)).ownsRow w.heap.size 40 2 (.slice (some ⟨w.heap.size + 1, 0, none⟩) 4 4) 4 (vC (sidesV (x, y))) := by
    have := own_new (w.alloc (.cells #[.int .i64 x, .int .i64 y] 40)) 40 2 4 #[.int .i64 x, .int .i64 (y - 1), .int .i64 (x - 1), .int .i64 y, .int .i64 (x + 1), .int .i64 y, .int .i64 x, .int .i64 (y + 1)] rfl (by simp [maxLen]) (base := w.heap.size) (by simp)
    simpa [sidesV, vC] using this
  have HO := Lib.hid ho
  clear ho
  go_enter Tryz.func83, Tryz.ntmps83
  go_wp2
  go_ret
  exact ⟨_, 4, 4, by simp, HO.out, (by (repeat (first | with_reducible exact Below.refl _ _ | with_reducible assumption | with_reducible apply bel_alloc | with_reducible apply bel_drew | with_reducible apply bel_drewN | ((with_reducible refine bel_set ?_ ?_); rotate_left; (simp <;> omega)) | (with_reducible refine bel_trans ?_ (by with_reducible assumption)))))⟩
set_option maxRecDepth 100000 in
set_option maxHeartbeats 6400000 in
theorem extensions_i (A : Option Addr) (n c : Nat) (xs : List C) (w : World) (hr : Rd w A (vC xs)) (hl : xs.length = n) (hs : isShape xs = true) :
    Calls Tryz.prog 74 #[.slice A n c] w (RetF w (extV xs)) := by
  have hn8 := (shape_len hs).2
  have hV : extV xs = extTo sidesV xs n := by unfold extV; rw [hl]
  have HV := Lib.hid hV
  have HL := Lib.hid hl
  have HR := Lib.hid hr
  have HSH := Lib.hid hs
  rw [hl] at hn8
  have hnn : n ≤ 1099511627776 := by omega
  have hn7 : n ≤ 1048576 := by omega
  clear hl hr hs hV
  go_enter Tryz.func74, Tryz.ntmps74
  go_wp2
  go_loopw [11, 3] (fun e11 e3 wr => ∃ (k q cq : Nat) (D : Option Addr) (hs : List H), k ≤ n ∧ e11 = .int .i64 k ∧ e3 = .slice D q cq ∧ OwnF w.heap.size wr D q cq hs (extTo sidesV xs k) ∧ Below w.heap.size w wr) (fun e11 _ _ => n - (intOf e11).toNat)
  case atStart => exact ⟨0, 0, 0, none, [], Nat.zero_le _, rfl, rfl, OwnF.nil _ _, Below.refl _ _⟩
  case round =>
    obtain ⟨k, q, cq, D, hs, hk, rfl, rfl, hO, hb⟩ := hrel
    by_cases hlt : k < n
    · have hkl : k < xs.length := by rw [HL.out]; exact hlt
      have hk0 : (0 : Int) ≤ (k : Int) := by omega
      have hk1 : (k : Int) < (n : Int) := by omega
      obtain ⟨g, off, hA, hg, d1, d2⟩ := RdC.at_ (HR.out.below hb) hkl
      subst hA
      have hon := shape_onB HSH.out _ (List.getElem_mem hkl)
      have hst := extTo_succ sidesV xs k hkl
      have hsl := extTo_len sidesV (fun _ => rfl) xs k (by omega)
      obtain ⟨p, hp⟩ : ∃ p, xs[k].1 = p := ⟨_, rfl⟩
      obtain ⟨r, hrr⟩ : ∃ r, xs[k].2 = r := ⟨_, rfl⟩
      rw [show xs[k] = (p, r) from Prod.ext hp hrr] at hon hst
      rw [hp] at d1
      rw [hrr] at d2
      have hsv := sidesV_small hon
      have hpr : -1 ≤ p ∧ p ≤ 8 ∧ -1 ≤ r ∧ r ≤ 8 := by simp [onB] at hon; omega
      have hfine := extTo_fine sidesV xs k
      obtain ⟨F0, hF0⟩ : ∃ F0, extTo sidesV xs k = F0 := ⟨_, rfl⟩
      rw [hF0] at hst hsl hO hfine
      have HST := Lib.hid hst
      have HFI := Lib.hid hfine
      have HSV := Lib.hid hsv
      have HO := Lib.hid hO
      have hFl : F0.length ≤ 4 * k := hsl
      have HPR := Lib.hid hpr
      clear hst hfine hsv hO hp hrr hon hF0 hpr hsl
      go_wp2_with fail
      refine (sides_i p r _ (by have := HPR.out; omega)).mono ?_
      rintro e w1 ⟨S, ms, cs, rfl, hoS, hb1⟩
      have hms : ms = 4 := by have := own_len hoS; rw [vC_length] at this; simp [sidesV] at this; omega
      subst hms
      have HCS := Lib.hid (CRow.of_own hoS)
      have HO1 := Lib.hid (HO.out.below (bel_trans (bel_alloc (Below.refl _ _) _) hb1))
      have hb01 : Below w.heap.size w w1 := (by (repeat (first | with_reducible exact Below.refl _ _ | with_reducible assumption | with_reducible apply bel_alloc | with_reducible apply bel_drew | with_reducible apply bel_drewN | ((with_reducible refine bel_set ?_ ?_); rotate_left; (simp <;> omega)) | (with_reducible refine bel_trans ?_ (by with_reducible assumption)))))
      clear hoS HO
      go_wp2_with fail
      go_loopw [18, 3] (fun e18 e3 wr => ∃ (j q cq : Nat) (D : Option Addr) (hs : List H) (F : List (List C)), j ≤ 4 ∧ e18 = .int .i64 j ∧ e3 = .slice D q cq ∧ F = ((sidesV (p, r)).take j).foldl (extStep xs) F0 ∧ OwnF w.heap.size wr D q cq hs F ∧ FineF F ∧ F.length ≤ 4 * k + j ∧ CRow wr (S, 4, cs) (sidesV (p, r)) ∧ Below w.heap.size w wr) (fun e18 _ _ => 4 - (intOf e18).toNat)
      case atStart => exact ⟨0, q, cq, D, hs, F0, Nat.zero_le _, rfl, rfl, rfl, HO1.out, HFI.out, by omega, HCS.out, hb01⟩
      case round =>
        clear HO1 HCS hb01 hb hb1 d1 d2 hg
        obtain ⟨j, q, cq, D, hs, F, hj, rfl, rfl, hF, hO, hfi, hfl, hcr, hb⟩ := hrel
        by_cases hj4 : j < 4
        · have hjl : j < (sidesV (p, r)).length := hj4
          have hj0 : (0 : Int) ≤ (j : Int) := by omega
          have hj1 : (j : Int) < 4 := by omega
          obtain ⟨g2, o2, hS, hg2, d1, d2⟩ := RdC.at_ hcr.2.1 hjl
          simp only at hS
          have hsm := HSV.out _ (List.getElem_mem hjl)
          have hstep : ((sidesV (p, r)).take (j + 1)).foldl (extStep xs) F0 = extStep xs F (sidesV (p, r))[j] := by
            rw [List.take_succ_eq_append_getElem hjl, List.foldl_append, ← hF]
            rfl
          obtain ⟨x, hx⟩ : ∃ x, (sidesV (p, r))[j].1 = x := ⟨_, rfl⟩
          obtain ⟨y, hy⟩ : ∃ y, (sidesV (p, r))[j].2 = y := ⟨_, rfl⟩
          rw [show (sidesV (p, r))[j] = (x, y) from Prod.ext hx hy] at hsm hstep
          rw [hx] at d1
          rw [hy] at d2
          have hsmall := app_small HSH.out hsm
          have HSM := Lib.hid hsmall
          have HF := Lib.hid hF
          have HO := Lib.hid hO
          have HFI2 := Lib.hid hfi
          have HCR := Lib.hid hcr
          have HQF := Lib.hid hO.flen
          have hq33 : q ≤ 4 * k + j := by rw [← hO.flen]; exact hfl
          have HX := Lib.hid (HR.out.below hb)
          subst hS
          clear hF hO hfi hcr hx hy hsm hsmall
          cases hh : hasC xs x y with
          | true =>
            have HN : Hid (((sidesV (p, r)).take (j + 1)).foldl (extStep xs) F0 = F) := by show _ = F; rw [hstep]; unfold extStep; simp only [hh, if_true]
            have HH := Lib.hid hh
            clear hh hstep
            go_wp2_with fail
            refine (HasCell_i _ n c xs x y _ ((HX.out).alloc _) HL.out hnn).mono ?_
            rw [show hasC xs x y = true from HH.out]
            rintro e w2 ⟨rfl, hb2⟩
            have hb3 := bel_trans (bel_alloc (Below.refl _ _) _) hb2
            go_wp2_with fail
            exact ⟨⟨j + 1, q, cq, D, hs, F, by omega, by go_num, rfl, HN.out.symm, HO.out.below hb3, HFI2.out, by have := HQF.out; omega, HCR.out.below hb3, bel_trans hb hb3⟩, by simp [intOf]; omega⟩
          | false =>
            have HH := Lib.hid hh
            go_wp2_with fail
            refine (HasCell_i _ n c xs x y _ ((HX.out).alloc _) HL.out hnn).mono ?_
            rw [show hasC xs x y = false from HH.out]
            rintro e w2 ⟨rfl, hb2⟩
            have hb3 := bel_trans (bel_alloc (Below.refl _ _) _) hb2
            have hCB := (Blk.new wr 40 #[.int .i64 x, .int .i64 y]).below hb2
            have z0 : w2.cell? ⟨wr.heap.size, 0, none⟩ = some (.int .i64 x) := by simpa using hCB.cell 0
            have z1 : w2.cell? ⟨wr.heap.size, 1, none⟩ = some (.int .i64 y) := by simpa using hCB.cell 1
            have zl := hCB.lt
            clear hCB d1 d2
            go_wp2_with fail
            refine wp_region_rg 7 rfl (by kernel_rfl) ?_
            (refine rgT (i := 0) (v := ?_) rfl rfl (by kernel_rfl) (by kernel_rfl) (by kernel_rfl) (by rfl) (fun w' hcw => ?_) ?_; rotate_left; ((try dsimp only at hcw); have hbc := hcw.cells; go_simp; first | done | with_reducible rfl); simp only [List.setIfInBounds_toArray, List.set_cons_zero, List.set_cons_succ])
            (refine rgT (i := 2) (v := ?_) rfl rfl (by kernel_rfl) (by kernel_rfl) (by kernel_rfl) (by rfl) (fun w' hcw => ?_) ?_; rotate_left; ((try dsimp only at hcw); have hbc := hcw.cells; go_simp; first | done | with_reducible rfl); simp only [List.setIfInBounds_toArray, List.set_cons_zero, List.set_cons_succ])
            refine rgK_two (i := 1) (k := 3) (by kernel_rfl) rfl rfl rfl rfl (fun u1 hc1 he1 K hK => ?_) (fun u1 hc1 he1 K hK => ?_)
            · go_simp
              refine (copyCells_i2 _ n c xs _ ((HX.out).below (bel_trans hb3 hc1)) HL.out hn7).mono ?_
              rintro e u2 ⟨C1, m1, cD, rfl, hod, hbd⟩
              obtain rfl : n = m1 := by have := own_len hod; rw [vC_length] at this; have := HL.out; omega
              have hec : Below w2.heap.size w2 u2 := bel_trans hc1 hbd
              refine hK _ _ hec ?_
              clear hK K
              have HOD := Lib.hid (own_base (base' := w2.heap.size) hod hc1.size)
              clear hod
              refine rgK_one (i := 3) (by kernel_rfl) rfl rfl (fun u3 hc3 he3 K hK => ?_)
              go_simp
              refine hK _ _ (bel_alloc hc3 _) ?_
              clear hK K
              refine rgK_one (i := 4) (by kernel_rfl) rfl rfl (fun u4 hc4 he4 K hK => ?_)
              refine wpC _ _ _ rfl w2.heap.size C1 n cD xs rfl (own_keep (own_keep HOD.out (bel_trans he3 (bel_alloc (Below.refl _ _) _))) he4) _ 1 1 [(x, y)] rfl ((rd_newC u3 _ x y).below he4) rfl (by omega) (hc4.size) ?_
              intro D2 c2 w5 ho5 hg5 _
              have hx5 : Below w2.heap.size w2 w5 := bel_app hc4 hg5 (fun g h => (own_lt HOD.out g h).1)
              refine hK _ _ hx5 ?_
              clear hK K
              simp only [Act.put, List.setIfInBounds_toArray]
              have HO5 := Lib.hid ho5
              clear ho5 hg5
              refine rgK_one (i := 5) (by kernel_rfl) rfl rfl (fun u5 hc5 he5 K hK => ?_)
              go_simp
              refine (corner_i D2 (n + 1) c2 (xs ++ [(x, y)]) _ (Rd.of_own (own_keep HO5.out he5)) (by simp [HL.out]) (by omega) (by omega) HSM.out).mono ?_
              rintro e w6 ⟨E, m, cE, rfl, ho6, hb6⟩
              have hx6 : Below w2.heap.size w2 w6 := bel_trans hc5 hb6
              refine hK _ _ hx6 ?_
              clear hK K
              have HO6 := Lib.hid ho6
              clear ho6
              refine rgK_one (i := 6) (by kernel_rfl) rfl rfl (fun u6 hc6 he6 K hK => ?_)
              go_simp
              refine hK _ _ hc6 ?_
              clear hK K
              refine ⟨by kernel_rfl, fun wz hcz hez => NoPanic.normal ?_⟩
              have HO7 := Lib.hid (own_keep (own_keep HO6.out he6) hez)
              have hbz : Below w2.heap.size w2 wz := hcz
              have hb9 : Below w.heap.size w wz := bel_trans hb (bel_trans hb3 hbz)
              have hb39 : Below wr.heap.size wr wz := bel_trans hb3 hbz
              clear HO6 HO5 HOD hc4 he4 hx5 hc5 he5 hb6 hx6 hc6 he6 hcz hez z0 z1 zl
              have hml : (cornI (xs ++ [(x, y)])).length = m := by have := own_len HO7.out; rw [vC_length] at this; omega
              have hm13 : m ≤ 9 := by have := cornI_len (xs ++ [(x, y)]); rw [hml] at this; simp [HL.out] at this; omega
              have hdef : extStep xs F (x, y) = if isShape (cornI (xs ++ [(x, y)])) then putG ltS F (cornI (xs ++ [(x, y)])) else F := by unfold extStep; simp only [hh, Bool.false_eq_true, if_false]
              rw [hdef] at hstep
              obtain ⟨s2, hs2⟩ : ∃ s2, cornI (xs ++ [(x, y)]) = s2 := ⟨_, rfl⟩
              rw [hs2] at hml hstep HO7
              have HML := Lib.hid hml
              cases hsh : isShape s2 with
              | true =>
                rw [hsh, if_pos rfl] at hstep
                have HSTEP := Lib.hid hstep
                have HS2 := Lib.hid hsh
                clear hstep hsh hml hs2 hdef hh
                go_wp2_with fail
                refine (IsShape_i E m cE s2 _ (Rd.of_own HO7.out) HML.out (by omega)).mono ?_
                rw [HS2.out]
                rintro e w7 ⟨rfl, hb7⟩
                have HOF := Lib.hid (HO.out.below (bel_trans hb39 hb7))
                have HOE := Lib.hid (own_keep HO7.out hb7)
                have HPB : Hid (putB ltS F s2 = putG ltS F s2) := putB_eq ltS_sto HFI2.out.1 s2
                go_wp2_with fail
                refine (putShape_i D q cq hs F E m cE s2 w.heap.size _ HOF.out (CRow.of_own HOE.out) HFI2.out.1 (fun x hx => by have := HFI2.out.len x hx; omega) (by omega) (by omega) (by have := hb9.size; have := hb7.size; omega)).mono ?_
                rw [HPB.out, ← HSTEP.out]
                rintro e w8 ⟨D3, q3, c3, hs3, rfl, hO8, hg8, hD8⟩
                have HO8 := Lib.hid hO8
                have HG8 := Lib.hid hg8
                have hq8 : q3 ≤ 4 * k + (j + 1) := by
                  rw [← hO8.flen, HSTEP.out]
                  have := putG_len (lt := ltS) F s2
                  have := HQF.out
                  omega
                have HFL8 : Hid ((((sidesV (p, r)).take (j + 1)).foldl (extStep xs) F0).length ≤ 4 * k + (j + 1)) := by show _ ≤ _; rw [hO8.flen]; exact hq8
                have HCR8 := Lib.hid (((HCR.out.below hb39).below hb7).grown hg8 (fun g e => ((HCR.out.below hb39).below hb7).apart HOF.out.own g e))
                have HB8 : Hid (Below w.heap.size w w8) := bel_app (bel_trans hb9 hb7) hg8 (fun g e => (own_lt HOF.out.own g e).1)
                have HF8 : Hid (FineF (((sidesV (p, r)).take (j + 1)).foldl (extStep xs) F0)) := by show FineF _; rw [HSTEP.out]; exact HFI2.out.put HS2.out
                clear hO8 hg8 hD8
                go_wp2_with fail
                exact ⟨⟨j + 1, q3, c3, D3, hs3, _, by omega, by go_num, rfl, rfl, HO8.out, HF8.out, HFL8.out, HCR8.out, HB8.out⟩, by simp [intOf]; omega⟩
              | false =>
                rw [hsh] at hstep
                have HSTEP : Hid (((sidesV (p, r)).take (j + 1)).foldl (extStep xs) F0 = F) := by show _ = F; rw [hstep]; rfl
                have HS2 := Lib.hid hsh
                clear hstep hsh hml hs2 hdef hh
                go_wp2_with fail
                refine (IsShape_i E m cE s2 _ (Rd.of_own HO7.out) HML.out (by omega)).mono ?_
                rw [HS2.out]
                rintro e w7 ⟨rfl, hb7⟩
                go_wp2_with fail
                exact ⟨⟨j + 1, q, cq, D, hs, F, by omega, by go_num, rfl, HSTEP.out.symm, HO.out.below (bel_trans hb39 hb7), HFI2.out, by have := HQF.out; omega, HCR.out.below (bel_trans hb39 hb7), bel_trans hb9 hb7⟩, by simp [intOf]; omega⟩
            · go_simp
              refine hK _ _ (bel_alloc hc1 _) ?_
              clear hK K
              refine rgK_one (i := 1) (by kernel_rfl) rfl rfl (fun u3 hc3 he3 K hK => ?_)
              go_simp
              refine (copyCells_i2 _ n c xs _ ((HX.out).below (bel_trans hb3 hc3)) HL.out hn7).mono ?_
              rintro e u2 ⟨C1, m1, cD, rfl, hod, hbd⟩
              obtain rfl : n = m1 := by have := own_len hod; rw [vC_length] at this; have := HL.out; omega
              have hec : Below w2.heap.size w2 u2 := bel_trans hc3 hbd
              refine hK _ _ hec ?_
              clear hK K
              have HOD := Lib.hid (own_base (base' := w2.heap.size) hod hc3.size)
              clear hod
              refine rgK_one (i := 4) (by kernel_rfl) rfl rfl (fun u4 hc4 he4 K hK => ?_)
              refine wpC _ _ _ rfl w2.heap.size C1 n cD xs rfl (own_keep HOD.out he4) _ 1 1 [(x, y)] rfl ((((rd_newC u1 _ x y).below he3).below hbd).below he4) rfl (by omega) (hc4.size) ?_
              intro D2 c2 w5 ho5 hg5 _
              have hx5 : Below w2.heap.size w2 w5 := bel_app hc4 hg5 (fun g h => (own_lt HOD.out g h).1)
              refine hK _ _ hx5 ?_
              clear hK K
              simp only [Act.put, List.setIfInBounds_toArray]
              have HO5 := Lib.hid ho5
              clear ho5 hg5
              refine rgK_one (i := 5) (by kernel_rfl) rfl rfl (fun u5 hc5 he5 K hK => ?_)
              go_simp
              refine (corner_i D2 (n + 1) c2 (xs ++ [(x, y)]) _ (Rd.of_own (own_keep HO5.out he5)) (by simp [HL.out]) (by omega) (by omega) HSM.out).mono ?_
              rintro e w6 ⟨E, m, cE, rfl, ho6, hb6⟩
              have hx6 : Below w2.heap.size w2 w6 := bel_trans hc5 hb6
              refine hK _ _ hx6 ?_
              clear hK K
              have HO6 := Lib.hid ho6
              clear ho6
              refine rgK_one (i := 6) (by kernel_rfl) rfl rfl (fun u6 hc6 he6 K hK => ?_)
              go_simp
              refine hK _ _ hc6 ?_
              clear hK K
              refine ⟨by kernel_rfl, fun wz hcz hez => NoPanic.normal ?_⟩
              have HO7 := Lib.hid (own_keep (own_keep HO6.out he6) hez)
              have hbz : Below w2.heap.size w2 wz := hcz
              have hb9 : Below w.heap.size w wz := bel_trans hb (bel_trans hb3 hbz)
              have hb39 : Below wr.heap.size wr wz := bel_trans hb3 hbz
              clear HO6 HO5 HOD hc4 he4 hx5 hc5 he5 hb6 hx6 hc6 he6 hcz hez z0 z1 zl
              have hml : (cornI (xs ++ [(x, y)])).length = m := by have := own_len HO7.out; rw [vC_length] at this; omega
              have hm13 : m ≤ 9 := by have := cornI_len (xs ++ [(x, y)]); rw [hml] at this; simp [HL.out] at this; omega
              have hdef : extStep xs F (x, y) = if isShape (cornI (xs ++ [(x, y)])) then putG ltS F (cornI (xs ++ [(x, y)])) else F := by unfold extStep; simp only [hh, Bool.false_eq_true, if_false]
              rw [hdef] at hstep
              obtain ⟨s2, hs2⟩ : ∃ s2, cornI (xs ++ [(x, y)]) = s2 := ⟨_, rfl⟩
              rw [hs2] at hml hstep HO7
              have HML := Lib.hid hml
              cases hsh : isShape s2 with
              | true =>
                rw [hsh, if_pos rfl] at hstep
                have HSTEP := Lib.hid hstep
                have HS2 := Lib.hid hsh
                clear hstep hsh hml hs2 hdef hh
                go_wp2_with fail
                refine (IsShape_i E m cE s2 _ (Rd.of_own HO7.out) HML.out (by omega)).mono ?_
                rw [HS2.out]
                rintro e w7 ⟨rfl, hb7⟩
                have HOF := Lib.hid (HO.out.below (bel_trans hb39 hb7))
                have HOE := Lib.hid (own_keep HO7.out hb7)
                have HPB : Hid (putB ltS F s2 = putG ltS F s2) := putB_eq ltS_sto HFI2.out.1 s2
                go_wp2_with fail
                refine (putShape_i D q cq hs F E m cE s2 w.heap.size _ HOF.out (CRow.of_own HOE.out) HFI2.out.1 (fun x hx => by have := HFI2.out.len x hx; omega) (by omega) (by omega) (by have := hb9.size; have := hb7.size; omega)).mono ?_
                rw [HPB.out, ← HSTEP.out]
                rintro e w8 ⟨D3, q3, c3, hs3, rfl, hO8, hg8, hD8⟩
                have HO8 := Lib.hid hO8
                have HG8 := Lib.hid hg8
                have hq8 : q3 ≤ 4 * k + (j + 1) := by
                  rw [← hO8.flen, HSTEP.out]
                  have := putG_len (lt := ltS) F s2
                  have := HQF.out
                  omega
                have HFL8 : Hid ((((sidesV (p, r)).take (j + 1)).foldl (extStep xs) F0).length ≤ 4 * k + (j + 1)) := by show _ ≤ _; rw [hO8.flen]; exact hq8
                have HCR8 := Lib.hid (((HCR.out.below hb39).below hb7).grown hg8 (fun g e => ((HCR.out.below hb39).below hb7).apart HOF.out.own g e))
                have HB8 : Hid (Below w.heap.size w w8) := bel_app (bel_trans hb9 hb7) hg8 (fun g e => (own_lt HOF.out.own g e).1)
                have HF8 : Hid (FineF (((sidesV (p, r)).take (j + 1)).foldl (extStep xs) F0)) := by show FineF _; rw [HSTEP.out]; exact HFI2.out.put HS2.out
                clear hO8 hg8 hD8
                go_wp2_with fail
                exact ⟨⟨j + 1, q3, c3, D3, hs3, _, by omega, by go_num, rfl, rfl, HO8.out, HF8.out, HFL8.out, HCR8.out, HB8.out⟩, by simp [intOf]; omega⟩
              | false =>
                rw [hsh] at hstep
                have HSTEP : Hid (((sidesV (p, r)).take (j + 1)).foldl (extStep xs) F0 = F) := by show _ = F; rw [hstep]; rfl
                have HS2 := Lib.hid hsh
                clear hstep hsh hml hs2 hdef hh
                go_wp2_with fail
                refine (IsShape_i E m cE s2 _ (Rd.of_own HO7.out) HML.out (by omega)).mono ?_
                rw [HS2.out]
                rintro e w7 ⟨rfl, hb7⟩
                go_wp2_with fail
                exact ⟨⟨j + 1, q, cq, D, hs, F, by omega, by go_num, rfl, HSTEP.out.symm, HO.out.below (bel_trans hb39 hb7), HFI2.out, by have := HQF.out; omega, HCR.out.below (bel_trans hb39 hb7), bel_trans hb9 hb7⟩, by simp [intOf]; omega⟩
        · obtain rfl : j = 4 := by omega
          have HN : Hid (extTo sidesV xs (k + 1) = F) := by show _ = F; rw [HST.out, hF]; rfl
          rw [← HN.out] at hO
          have HO := Lib.hid hO
          clear hO hF
          go_wp2_with fail
          exact ⟨⟨k + 1, q, cq, D, hs, by omega, by go_num, rfl, HO.out, hb⟩, by simp [intOf]; omega⟩
    · obtain rfl : k = n := by omega
      rw [← HV.out] at hO
      have HO := Lib.hid hO
      have hk1 : ¬ (k : Int) < (k : Int) := by omega
      clear hO
      go_wp2
      go_ret
      exact ⟨D, q, cq, hs, rfl, HO.out, hb⟩
end Go.Proofs.YtfnphchcgaebkaaGreat

/- All shapes of some cells: the program. -/
namespace Go.Proofs.YtfnphchcgaebkaaGreat
open Go.RowKit
set_option linter.unusedVariables false
attribute [local go_sem ↓] Go.wp_at_zero Go.wp_at_succ

theorem RdF.grown {w w' : World} {A : Option Addr} {n : Nat} {hs : List H} {F : List (List C)} (h : RdF w A n hs F) {D : Option Addr} {q cq base sz : Nat} {vs : List Value} (ho : w.ownsRow base 24 sz (.slice D q cq) q vs)
    (hg : w.grownBy w' (ob D)) (hn : ∀ g, ob A = some g → ob D ≠ some g) : RdF w' A n hs F :=
  ⟨h.top.grown hg (fun g e r => hn g e r.symm), h.hlen, h.flen, fun i x f a b => (h.row i x f a b).grown hg (fun g e => (h.row i x f a b).apart ho g e)⟩
theorem pow32 (k : Nat) (h : k ≤ 4) : 32 ^ k ≤ 1048576 := by
  have : 32 ^ k ≤ 32 ^ 4 := Nat.pow_le_pow_right (by omega) h
  simpa using this
set_option maxRecDepth 100000 in
set_option maxHeartbeats 3200000 in
theorem grown_i (n : Nat) (w : World) (hn1 : 1 ≤ n) (hn6 : n ≤ 6) : Calls Tryz.prog 64 #[.int .i64 (n : Int)] w (RetF w (fixV (n - 1))) := by
  have hini : OwnF w.heap.size ((w.alloc (.cells #[.int .i64 0, .int .i64 0] 40)).alloc (.cells #[.slice (some ⟨w.heap.size, 0, none⟩) 1 1] 24)) (some ⟨w.heap.size + 1, 0, none⟩) 1 1 [(some ⟨w.heap.size, 0, none⟩, 1, 1)] (fixV 0) := by
    refine ⟨?_, rfl, fun i x f h1 h2 => ?_⟩
    · have := own_new (w.alloc (.cells #[.int .i64 0, .int .i64 0] 40)) 24 1 1 #[.slice (some ⟨w.heap.size, 0, none⟩) 1 1] rfl (by simp [maxLen]) (base := w.heap.size) (by simp)
      simpa [vS, hd] using this
    · have hi : i = 0 := by have := (List.getElem?_eq_some_iff.1 h1).1; simp at this; exact this
      subst hi
      simp at h1
      simp [fixV] at h2
      subst h1 h2
      have := (own_new w 40 2 1 #[.int .i64 0, .int .i64 0] rfl (by simp [maxLen]) (base := w.heap.size) (Nat.le_refl _)).alloc (.cells #[.slice (some ⟨w.heap.size, 0, none⟩) 1 1] 24)
      exact CRow.of_own (by simpa [vC] using this)
  have HI := Lib.hid hini
  clear hini
  go_enter Tryz.func64, Tryz.ntmps64
  go_wp2
  go_loopw [4, 3] (fun e4 e3 wr => ∃ (k m c : Nat) (A : Option Addr) (hs : List H), 1 ≤ k ∧ k ≤ n ∧ e4 = .int .i64 k ∧ e3 = .slice A m c ∧ OwnF w.heap.size wr A m c hs (fixV (k - 1)) ∧ Below w.heap.size w wr) (fun e4 _ _ => n - (intOf e4).toNat)
  case atStart => exact ⟨1, 1, 1, _, _, Nat.le_refl _, hn1, by simp, by simp, HI.out, (by (repeat (first | with_reducible exact Below.refl _ _ | with_reducible assumption | with_reducible apply bel_alloc | with_reducible apply bel_drew | with_reducible apply bel_drewN | ((with_reducible refine bel_set ?_ ?_); rotate_left; (simp <;> omega)) | (with_reducible refine bel_trans ?_ (by with_reducible assumption)))))⟩
  case round =>
    obtain ⟨k, m, c, A, hs, hk1, hkn, rfl, rfl, hO, hb⟩ := hrel
    obtain ⟨v, hv⟩ : ∃ v, v = wr := ⟨_, rfl⟩
    subst hv
    by_cases hlt : k < n
    · have hkI : (k : Int) < (n : Int) := by omega
      obtain ⟨k0, hk0⟩ : ∃ k0, k = k0 + 1 := ⟨k - 1, by omega⟩
      have hkk : k - 1 = k0 := by omega
      rw [hkk] at hO
      have HNX : Hid (fixV (k + 1 - 1) = growN (fixV k0) m) := by show fixV (k + 1 - 1) = _; rw [Nat.add_sub_cancel, hk0, ← hO.flen]; rfl
      have hml : m ≤ 1048576 := by have h1 := fixV_len k0; have h2 := pow32 k0 (by omega); rw [hO.flen] at h1; omega
      have hsh := (fixV_fine k0).2
      obtain ⟨F, hF⟩ : ∃ F, fixV k0 = F := ⟨_, rfl⟩
      rw [hF] at hO hsh
      rw [hF] at HNX
      have HO := Lib.hid hO
      have HFL := Lib.hid hO.flen
      have HSH := Lib.hid hsh
      have HKK := Lib.hid hk0
      have hbz := hb.size
      clear hO hF hsh hk0 hkk
      go_wp2
      go_loopw [20, 5] (fun e20 e5 wr2 => ∃ (i q cq : Nat) (D : Option Addr) (hs2 : List H), i ≤ m ∧ e20 = .int .i64 i ∧ e5 = .slice D q cq ∧ OwnF v.heap.size wr2 D q cq hs2 (growN F i) ∧ Below v.heap.size v wr2) (fun e20 _ _ => m - (intOf e20).toNat)
      case atStart => exact ⟨0, 0, 0, none, [], Nat.zero_le _, rfl, rfl, OwnF.nil _ _, Below.refl _ _⟩
      case round =>
        obtain ⟨i, q, cq, D, hs2, hi, rfl, rfl, hO2, hb2⟩ := hrel
        by_cases him : i < m
        · have hi0 : (0 : Int) ≤ (i : Int) := by omega
          have hi1 : (i : Int) < (m : Int) := by omega
          have hRF := (HO.out.below hb2).rd
          obtain ⟨x, t, g, off, hsx, hfx, hAe, hg, d1, hrow⟩ := hRF.at_ him
          have htsh := HSH.out t (List.mem_of_getElem? hfx)
          have hiF : i < F.length := by rw [HFL.out]; exact him
          have hgs := growN_succ F i hiF
          rw [show F[i] = t from by rw [List.getElem?_eq_getElem hiF] at hfx; injection hfx] at hgs
          have hgl := growN_len F HSH.out i (by omega)
          have hgf := growN_fine F i (by omega)
          obtain ⟨C1, m1, k1⟩ := x
          have hl1 : t.length = m1 := hrow.1
          obtain ⟨G0, hG0⟩ : ∃ G0, growN F i = G0 := ⟨_, rfl⟩
          rw [hG0] at hgs hgl hgf hO2
          have HL1 := Lib.hid hl1
          have HT := Lib.hid htsh
          have HROW := Lib.hid hrow
          have HGS := Lib.hid hgs
          have HGF := Lib.hid hgf
          have HO2 := Lib.hid hO2
          have hql : q ≤ 32 * i := by rw [← hO2.flen]; exact hgl
          have hDlt := own_lt hO2.own
          have HDL := Lib.hid hDlt
          dsimp only at d1
          subst hAe
          clear hsx hfx hrow htsh hgs hgf hgl hO2 hG0 hl1 hRF hDlt
          go_wp2_with fail
          refine (extensions_i C1 m1 k1 t _ HROW.out.2.1 HL1.out HT.out).mono ?_
          rintro e w1 ⟨E, me, ce, hsE, rfl, hoE, hb3⟩
          have hel : me ≤ 32 := by rw [← hoE.flen]; have h1 := extV_len t; have h2 := (shape_len HT.out).2; omega
          have HRE := Lib.hid hoE.rd
          have HEL := Lib.hid (own_lt hoE.own)
          have HFE := Lib.hid hoE.flen
          have HO3 := Lib.hid (HO2.out.below hb3)
          have hb23 : Below v.heap.size v w1 := bel_trans hb2 hb3
          have HSEP : Hid (∀ g, ob D = some g → ob E ≠ some g) := fun g e r => by have h1 := (HDL.out g e).2; have h2 := (HEL.out g r).1; omega
          clear hoE HO2 HROW hb2 hb3 d1
          go_wp2_with fail
          go_loopw [27, 5] (fun e27 e5 wr3 => ∃ (j q cq : Nat) (D : Option Addr) (hs2 : List H) (G : List (List C)), j ≤ me ∧ e27 = .int .i64 j ∧ e5 = .slice D q cq ∧ G = ((extV t).take j).foldl (putG ltS) G0 ∧ OwnF v.heap.size wr3 D q cq hs2 G ∧ FineF G ∧ G.length ≤ 32 * i + j ∧ RdF wr3 E me hsE (extV t) ∧ (∀ g, ob D = some g → ob E ≠ some g) ∧ Below v.heap.size v wr3) (fun e27 _ _ => me - (intOf e27).toNat)
          case atStart => exact ⟨0, q, cq, D, hs2, G0, Nat.zero_le _, rfl, rfl, rfl, HO3.out, HGF.out, by rw [HO3.out.flen]; omega, HRE.out, HSEP.out, hb23⟩
          case round =>
            clear HSEP HO3 HRE HDL hb23 hg
            obtain ⟨j, q, cq, D, hs2, G, hj, rfl, rfl, hG, hO, hfi, hgl, hre, hsep, hb3⟩ := hrel
            by_cases hjm : j < me
            · have hj0 : (0 : Int) ≤ (j : Int) := by omega
              have hj1 : (j : Int) < (me : Int) := by omega
              obtain ⟨x, s2, g2, o2, hsx, hfx, hEe, hg2, d1, hrow⟩ := hre.at_ hjm
              have hs2sh := (extTo_fine sidesV t t.length).2 s2 (List.mem_of_getElem? hfx)
              have hjE : j < (extV t).length := by rw [HFE.out]; exact hjm
              have hstep : ((extV t).take (j + 1)).foldl (putG ltS) G0 = putG ltS G s2 := by
                rw [List.take_succ_eq_append_getElem hjE, List.foldl_append, ← hG, show (extV t)[j] = s2 from by rw [List.getElem?_eq_getElem hjE] at hfx; injection hfx]
                rfl
              obtain ⟨B, m2, k2⟩ := x
              have hl2 : s2.length = m2 := hrow.1
              have hm28 : m2 ≤ 8 := by have := (shape_len hs2sh).2; omega
              have hqG : q ≤ 32 * i + j := by rw [← hO.flen]; exact hgl
              have HQL := Lib.hid hO.flen
              have HO := Lib.hid hO
              have HFI := Lib.hid hfi
              have HRE := Lib.hid hre
              have HSEP := Lib.hid hsep
              have HROW := Lib.hid hrow
              have HS2 := Lib.hid hs2sh
              have HST := Lib.hid hstep
              have HPB : Hid (putB ltS G s2 = putG ltS G s2) := putB_eq ltS_sto hfi.1 s2
              dsimp only at d1
              have HEE := Lib.hid hEe
              subst hEe
              clear hG hO hfi hre hsep hsx hfx hrow hs2sh hstep hl2 hgl
              go_wp2_with fail
              refine (putShape_i D q cq hs2 G B m2 k2 s2 v.heap.size _ HO.out HROW.out HFI.out.1 (fun x hx => by have := HFI.out.len x hx; omega) (by omega) (by omega) hb3.size).mono ?_
              rw [HPB.out, ← HST.out]
              rintro e w8 ⟨D3, q3, c3, hs3, rfl, hO8, hg8, hD8⟩
              have HO8 := Lib.hid hO8
              have hq8 : q3 ≤ 32 * i + (j + 1) := by
                rw [← hO8.flen, HST.out]
                have := putG_len (lt := ltS) G s2
                have := HQL.out
                omega
              have HFL8 : Hid ((((extV t).take (j + 1)).foldl (putG ltS) G0).length ≤ 32 * i + (j + 1)) := by show _ ≤ _; rw [hO8.flen]; exact hq8
              have HRE8 := Lib.hid (HRE.out.grown HO.out.own hg8 (fun g e r => HSEP.out g r e))
              have HB8 : Hid (Below v.heap.size v w8) := bel_app hb3 hg8 (fun g e => (own_lt HO.out.own g e).1)
              have HF8 : Hid (FineF (((extV t).take (j + 1)).foldl (putG ltS) G0)) := by show FineF _; rw [HST.out]; exact HFI.out.put HS2.out
              have HSEP8 : Hid (∀ g, ob D3 = some g → ob (some (⟨g2, o2, none⟩ : Addr)) ≠ some g) := fun g e r => by
                rcases hD8 g e with h1 | h1
                · exact HSEP.out g h1 r
                · simp only [ob, Option.map_some, Option.some.injEq] at r; omega
              clear hO8 hg8 hD8
              go_wp2_with fail
              exact ⟨⟨j + 1, q3, c3, D3, hs3, _, by omega, by go_num, rfl, rfl, HO8.out, HF8.out, HFL8.out, HRE8.out, HSEP8.out, HB8.out⟩, by simp [intOf]; omega⟩
            · obtain rfl : j = me := by omega
              have hGe : growN F (i + 1) = G := by rw [HGS.out, hG, List.take_of_length_le (by rw [HFE.out]; omega)]
              rw [← hGe] at hO
              have HO := Lib.hid hO
              have hj1 : ¬ (j : Int) < (j : Int) := by omega
              clear hO hG hGe hre hsep
              go_wp2_with fail
              exact ⟨⟨i + 1, q, cq, D, hs2, by omega, by go_num, rfl, HO.out, hb3⟩, by simp [intOf]; omega⟩
        · obtain rfl : i = m := by omega
          rw [← HNX.out] at hO2
          have HO2 := Lib.hid (hO2.mono hbz)
          have hi1 : ¬ (i : Int) < (i : Int) := by omega
          clear hO2
          go_wp2_with fail
          exact ⟨⟨k + 1, q, cq, D, hs2, by omega, by omega, by go_num, rfl, HO2.out, bel_trans hb hb2⟩, by simp [intOf]; omega⟩
    · obtain rfl : k = n := by omega
      have HO := Lib.hid hO
      have hkI : ¬ (k : Int) < (k : Int) := by omega
      clear hO
      go_wp2
      go_ret
      exact ⟨A, m, c, hs, rfl, HO.out, hb⟩
/-- All shapes of n cells, where n lies in the bounds. -/
def fixA (n : Int) : List (List C) := if 1 ≤ n ∧ n ≤ 5 then fixV (n.toNat - 1) else []
theorem fixA_shape2 (n : Int) : ∀ x ∈ fixA n, isShape x = true := by
  intro x hx
  unfold fixA at hx
  split at hx
  · exact (fixV_fine _).2 x hx
  · simp at hx
theorem fixA_len2 (n : Int) : (fixA n).length ≤ 1048576 := by
  unfold fixA
  split
  · have h1 := fixV_len (n.toNat - 1); have h2 := pow32 (n.toNat - 1) (by omega); omega
  · simp
theorem FixedShapes_i (n : Int) (w : World) : Calls Tryz.prog 47 #[.int .i64 n] w (RetF w (fixA n)) := by
  by_cases h : 1 ≤ n ∧ n ≤ 5
  · obtain ⟨k, rfl⟩ : ∃ k : Nat, n = (k : Int) := ⟨n.toNat, by omega⟩
    have HV : Hid (fixA (k : Int) = fixV (k - 1)) := by show fixA _ = _; unfold fixA; rw [if_pos h]; simp
    have h1 : 1 ≤ k := by omega
    have h5 : k ≤ 6 := by omega
    have HB := Lib.hid h
    clear h
    go_enter Tryz.func47, Tryz.ntmps47
    go_wp2_with fail
    refine (between_t (k : Int) 1 5 _ HB.out.1 HB.out.2).mono ?_
    rintro e w1 ⟨rfl, hb1⟩
    go_wp2_with fail
    refine (grown_i k _ h1 h5).mono ?_
    rw [← HV.out]
    rintro e w2 ⟨A, m, c, hs, rfl, hO, hb2⟩
    have HO := Lib.hid (hO.mono hb1.size)
    clear hO
    go_wp2_with fail
    go_ret
    exact ⟨A, m, c, hs, rfl, HO.out, bel_trans hb1 hb2⟩
  · have HV : Hid (fixA n = []) := by show fixA _ = _; unfold fixA; rw [if_neg h]
    have HB := Lib.hid h
    clear h
    go_enter Tryz.func47, Tryz.ntmps47
    go_wp2_with fail
    refine (between_f n 1 5 _ HB.out).mono ?_
    rintro e w1 ⟨rfl, hb1⟩
    go_wp2_with fail
    go_ret
    exact ⟨none, 0, 0, [], rfl, by rw [HV.out]; exact OwnF.nil _ _, hb1⟩
def cntV (n hi : Int) : Int := if 1 ≤ n ∧ n ≤ hi then ((fixV (n.toNat - 1)).length : Nat) else -1
end Go.Proofs.YtfnphchcgaebkaaGreat

/- A shape put into an ordered list, once: the reference. -/
namespace Go.Proofs.YtfnphchcgaebkaaGreat
open Go.RowKit
set_option linter.unusedVariables false
attribute [local go_sem ↓] Go.wp_at_zero Go.wp_at_succ

theorem infoF2 : (Tryz.prog.info? 24).map (fun i => (i.zero, i.size, i.bytes)) = some (some (.slice none 0 0), 1, 24) := by kernel_rfl
def offF2 (c k : Nat) : Nat := if c = k then 0 else k
theorem run_uptoF (w : World) (g m c k : Nat) (hk : k ≤ c) : (Instr.slice 51 (.slice (some ⟨g, 0, none⟩) m c) none (some (.int .i64 (k : Int))) none).run Tryz.prog w = .ok (.slice (some ⟨g, 0, none⟩) k c) w := by
  have h2 : (k : Int) ≤ (c : Int) := by omega
  simp [go_sem, h2]
theorem run_fromF2 (w : World) (g m c k : Nat) (hk : k ≤ m) : (Instr.slice 51 (.slice (some ⟨g, 0, none⟩) m c) (some (.int .i64 (k : Int))) none none).run Tryz.prog w = .ok (.slice (some ⟨g, offF2 c k, none⟩) (m - k) (c - k)) w := by
  have h1 : (0 : Int) ≤ (k : Int) := by omega
  have h2 : (k : Int) ≤ (m : Int) := by omega
  unfold offF2
  by_cases hc : c = k
  · subst hc
    simp [go_sem, h2]
  · simp [go_sem, h2, hc]
theorem Rd.fromF {w : World} {g c k m : Nat} {l : List H} (h : Rd w (some ⟨g, 0, none⟩) (vS l)) (hl : l.length = m) (hmc : m ≤ c) : Rd w (some ⟨g, offF2 c k, none⟩) (vS (l.drop k)) := by
  have h2 := Rd.drop h k c (by rw [vS_length]; omega)
  rw [show vS (l.drop k) = (vS l).drop k from by simp [vS]]
  unfold offF2
  split
  · next e => rw [if_pos e] at h2; exact h2
  · next e =>
    rw [if_neg e] at h2
    have e2 : (some ⟨g, 0, none⟩ : Option Addr).map (·.add k) = some ⟨g, k, none⟩ := by simp only [Option.map_some]; unfold Addr.add; split <;> simp_all
    rw [e2] at h2
    exact h2
theorem ins_rows2 {α β : Type} {hs : List α} {F : List β} {k : Nat} (hl : hs.length = F.length) (hk : k ≤ F.length) {x0 : α} {f : β} (i : Nat) (x : α) (y : β) (h1 : (hs.take k ++ [x0] ++ hs.drop k)[i]? = some x) (h2 : (F.take k ++ [f] ++ F.drop k)[i]? = some y) :
    (∃ j : Nat, hs[j]? = some x ∧ F[j]? = some y) ∨ (x = x0 ∧ y = f) := by
  have e1 : (hs.take k).length = k := by rw [List.length_take]; omega
  have e2 : (F.take k).length = k := by rw [List.length_take]; omega
  rw [List.append_assoc] at h1 h2
  rcases Nat.lt_trichotomy i k with h | h | h
  · rw [List.getElem?_append_left (by omega), List.getElem?_take_of_lt h] at h1 h2
    exact .inl ⟨i, h1, h2⟩
  · subst h
    rw [List.getElem?_append_right (by omega), e1, Nat.sub_self] at h1
    rw [List.getElem?_append_right (by omega), e2, Nat.sub_self] at h2
    simp at h1 h2
    exact .inr ⟨h1.symm, h2.symm⟩
  · obtain ⟨j, rfl⟩ : ∃ j, i = k + 1 + j := ⟨i - (k + 1), by omega⟩
    rw [List.getElem?_append_right (by omega), e1, show k + 1 + j - k = j + 1 from by omega] at h1
    rw [List.getElem?_append_right (by omega), e2, show k + 1 + j - k = j + 1 from by omega] at h2
    simp only [List.singleton_append, List.getElem?_cons_succ, List.getElem?_drop] at h1 h2
    exact .inl ⟨_, h1, h2⟩
theorem cmpS_lt (s t : List C) : decide (cmpS s t < 0) = ltS s t := by
  have := cmpS_neg s t
  cases h : ltS s t with
  | true =>
    unfold cmpS
    rw [h]
    rfl
  | false =>
    unfold cmpS
    rw [h]
    simp only [Bool.false_eq_true, if_false]
    split <;> rfl
/-- The list with the shape put in: nothing that was there has turned. -/
def PutS (base : Nat) (w : World) (F : List (List C)) (e : Ending) (w' : World) : Prop :=
  ∃ g n c hs, e = .returned (.slice (some ⟨g, 0, none⟩) n c) ∧ OwnF base w' (some ⟨g, 0, none⟩) n c hs F ∧ Below w.heap.size w w'
set_option maxRecDepth 100000 in
set_option maxHeartbeats 3200000 in
theorem l3Put_s (g m cp : Nat) (hs : List H) (F : List (List C)) (B : Option Addr) (mb d : Nat) (f : List C) (base : Nat) (w : World) (ho : OwnF base w (some ⟨g, 0, none⟩) m cp hs F) (hf : CRow w (B, mb, d) f)
    (hl : ∀ x ∈ F, x.length ≤ 1048576) (hmb : mb ≤ 1048576) (hm : m ≤ 1073741824) (hb0 : base ≤ w.heap.size) :
    Calls Tryz.prog 66 #[.slice (some ⟨g, 0, none⟩) m cp, .slice B mb d] w (PutS base w (putG ltS F f)) := by
  have hmc : m ≤ cp ∧ cp ≤ 9223372036854775807 := by
    rcases ho.own.2 with ⟨h, _⟩ | ⟨g', cap, cur, hv, _, _, h1, h2, _⟩
    · cases h
    · injection hv with _ _ h3
      unfold maxLen at h2
      omega
  obtain ⟨hmc1, hmc2⟩ := hmc
  have hcm : cutG ltS F f F.length = cutG ltS F f m := by rw [ho.flen]
  have HIN : Hid (∀ k', cutG ltS F f m = k' → ¬ (0 < k' ∧ F.getD (k' - 1) default = f) → putG ltS F f = F.take k' ++ [f] ++ F.drop k') := fun k' h1 h2 => putG_new (hcm.trans h1) h2
  have HSM : Hid (∀ k', cutG ltS F f m = k' → 0 < k' → F.getD (k' - 1) default = f → putG ltS F f = F) := fun k' h1 h2 h3 => putG_same (hcm.trans h1) h2 h3
  have HO := Lib.hid ho
  have HF := Lib.hid hf
  have HL := Lib.hid hl
  have HFL := Lib.hid ho.flen
  clear ho hf hl hcm
  go_enter Tryz.func66, Tryz.ntmps66
  go_wp2
  go_loopw [5] (fun e5 wr => ∃ k : Nat, k ≤ m ∧ e5 = .int .i64 k ∧ cutG ltS F f m = cutG ltS F f k ∧ Below w.heap.size w wr) (fun e5 _ => (intOf e5).toNat)
  case atStart => exact ⟨m, Nat.le_refl _, rfl, rfl, Below.refl _ _⟩
  case round =>
    obtain ⟨k, hk, rfl, hcut, hb⟩ := hrel
    have HCUT := Lib.hid hcut
    clear hcut
    by_cases hk0 : 0 < k
    · obtain ⟨j, hjk⟩ : ∃ j, k = j + 1 := ⟨k - 1, by omega⟩
      obtain ⟨x, t, g', off, hsx, hfx, he, hg, c1, hrow⟩ := (HO.out.below hb).rd.at_ (show j < m by omega)
      simp only [Option.some.injEq, Addr.mk.injEq, and_true] at he
      obtain ⟨rfl, rfl⟩ := he
      rw [Nat.zero_add] at c1
      have hgd : F.getD j default = t := by rw [List.getD_eq_getElem?_getD, hfx]; rfl
      have htl := HL.out t (List.mem_of_getElem? hfx)
      obtain ⟨C1, m1, k1⟩ := x
      have h1 : t.length = m1 := hrow.1
      have H1 := Lib.hid h1
      have HR := Lib.hid hrow
      have hm1 : m1 ≤ 1048576 := by omega
      have HG := Lib.hid hgd
      have hj1 : (k : Int) - 1 = (j : Int) := by omega
      have hj0 : (0 : Int) ≤ (j : Int) := by omega
      have hjw : IntKind.i64.wrap (j : Int) = (j : Int) := Go.IntWalk.i64_in _ (by omega)
      have hjm : (j : Int) < (m : Int) := by omega
      have hkp : (k : Int) > 0 := by omega
      have HJ := Lib.hid hjk
      dsimp only at c1
      clear hgd hsx hfx hrow h1 htl hjk
      cases hlt : ltS f t with
      | true =>
        have HN : Hid (cutG ltS F f m = cutG ltS F f j) := by show _ = _; rw [HCUT.out, HJ.out]; show (if ltS f (F.getD j default) = true then _ else _) = _; rw [HG.out, if_pos hlt]
        have hcl := cmpS_lt f t
        obtain ⟨v, hv⟩ : ∃ v, cmpS f t = v := ⟨_, rfl⟩
        rw [hv, hlt] at hcl
        have hvl : v < 0 := by simpa using hcl
        have HV := Lib.hid hv
        clear hv hlt hcl
        go_wp2_with fail
        refine (CompareShapes_s B C1 mb d m1 k1 f t _ (HF.out.below hb).2.1 HR.out.2.1 HF.out.1 H1.out (by omega) (by omega)).mono ?_
        rw [HV.out]
        rintro e w1 ⟨rfl, hb1⟩
        go_wp2_with fail
        exact ⟨⟨j, by omega, rfl, HN.out, bel_trans hb hb1⟩, by simp [intOf]; have := HJ.out; omega⟩
      | false =>
        have HN : Hid (cutG ltS F f m = k) := by show _ = _; rw [HCUT.out, HJ.out]; show (if ltS f (F.getD j default) = true then _ else _) = _; rw [HG.out, if_neg (by rw [hlt]; simp)]
        have hcl := cmpS_lt f t
        obtain ⟨v, hv⟩ : ∃ v, cmpS f t = v := ⟨_, rfl⟩
        rw [hv, hlt] at hcl
        have hvl : ¬ v < 0 := by simpa using hcl
        have HVV := Lib.hid hv
        clear hv hlt
        by_cases htf : t = f
        · have HV := Lib.hid (HSM.out k HN.out hk0 (by rw [show k - 1 = j from by have := HJ.out; omega, HG.out, htf]))
          have HD : Hid (decide (t = f) = true) := decide_eq_true htf
          clear htf
          go_wp2_with fail
          refine (CompareShapes_s B C1 mb d m1 k1 f t _ (HF.out.below hb).2.1 HR.out.2.1 HF.out.1 H1.out (by omega) (by omega)).mono ?_
          rw [HVV.out]
          rintro e w1 ⟨rfl, hb1⟩
          have c2 := (hb1.cell hg).trans c1
          have hg2 : g < w1.heap.size := Nat.lt_of_lt_of_le hg hb1.size
          clear c1
          go_wp2_with fail
          refine (EqualShapes_s C1 B m1 k1 mb d t f _ (HR.out.below hb1).2.1 ((HF.out.below hb).below hb1).2.1 H1.out HF.out.1 (by omega) (by omega)).mono ?_
          rw [HD.out]
          rintro e w2 ⟨rfl, hb2⟩
          go_wp2_with fail
          go_ret
          exact ⟨g, m, cp, hs, rfl, by rw [HV.out]; exact HO.out.below (bel_trans hb (bel_trans hb1 hb2)), bel_trans hb (bel_trans hb1 hb2)⟩
        · have HV := Lib.hid (HIN.out k HN.out (fun h => htf (by have := h.2; rw [show k - 1 = j from by have := HJ.out; omega, HG.out] at this; exact this)))
          have HD : Hid (decide (t = f) = false) := decide_eq_false htf
          clear htf
          go_wp2_with fail
          refine (CompareShapes_s B C1 mb d m1 k1 f t _ (HF.out.below hb).2.1 HR.out.2.1 HF.out.1 H1.out (by omega) (by omega)).mono ?_
          rw [HVV.out]
          rintro e w1 ⟨rfl, hb1⟩
          have c2 := (hb1.cell hg).trans c1
          have hg2 : g < w1.heap.size := Nat.lt_of_lt_of_le hg hb1.size
          clear c1
          go_wp2_with fail
          refine (EqualShapes_s C1 B m1 k1 mb d t f _ (HR.out.below hb1).2.1 ((HF.out.below hb).below hb1).2.1 H1.out HF.out.1 (by omega) (by omega)).mono ?_
          rw [HD.out]
          rintro e w2 ⟨rfl, hb2⟩
          have hbb : Below w.heap.size w w2 := bel_trans hb (bel_trans hb1 hb2)
          clear c2
          obtain ⟨i0, hi, hz0, hz1, hz2⟩ := info_parts infoF2
          have hs1 : ∀ w', (Instr.slice 51 (.slice (some ⟨g, 0, none⟩) m cp) none (some (.int .i64 (k : Int))) none).run Tryz.prog w' = .ok (.slice (some ⟨g, 0, none⟩) k cp) w' := fun w' => run_uptoF w' g m cp k (by omega)
          have hs2 : ∀ w', (Instr.slice 51 (.slice (some ⟨g, 0, none⟩) m cp) (some (.int .i64 (k : Int))) none none).run Tryz.prog w' = .ok (.slice (some ⟨g, offF2 cp k, none⟩) (m - k) (cp - k)) w' := fun w' => run_fromF2 w' g m cp k (by omega)
          have R2 : Hid (Rd w2 (some ⟨g, offF2 cp k, none⟩) (vS (hs.drop k))) := Rd.fromF (Rd.of_own (HO.out.below hbb).own) (HO.out.hlen) (by omega)
          have R1 : Hid (Rd w2 (some ⟨g, 0, none⟩) (vS (hs.take k))) := by
            show Rd _ _ _
            rw [show vS (hs.take k) = (vS hs).take k from by simp [vS]]
            exact Rd.take (Rd.of_own (HO.out.below hbb).own) _
          have L1 : Hid ((hs.take k).length = k) := by show (hs.take k).length = k; rw [List.length_take, HO.out.hlen]; omega
          have L2 : Hid ((hs.drop k).length = m - k) := by show (hs.drop k).length = m - k; rw [List.length_drop, HO.out.hlen]
          have HB := Lib.hid hbb
          have HI := Lib.hid hi
          have HZ0 := Lib.hid hz0
          have HZ1 := Lib.hid hz1
          have HZ2 := Lib.hid hz2
          clear hi hz0 hz1 hz2
          go_wp2_with fail
          refine wp_region_rg 13 rfl (by kernel_rfl) ?_
          (refine rgT (i := 1) (v := ?_) rfl rfl (by kernel_rfl) (by kernel_rfl) (by kernel_rfl) (by rfl) (fun w' hcw => ?_) ?_; rotate_left; ((try dsimp only at hcw); have hbc := hcw.cells; go_simp; first | done | with_reducible rfl); simp only [List.setIfInBounds_toArray, List.set_cons_zero, List.set_cons_succ])
          (refine rgT (i := 2) (v := ?_) rfl rfl (by kernel_rfl) (by kernel_rfl) (by kernel_rfl) (by rfl) (fun w' hcw => ?_) ?_; rotate_left; ((try dsimp only at hcw); have hbc := hcw.cells; go_simp; first | done | with_reducible rfl); simp only [List.setIfInBounds_toArray, List.set_cons_zero, List.set_cons_succ])
          (refine rgT (i := 3) (v := ?_) rfl rfl (by kernel_rfl) (by kernel_rfl) (by kernel_rfl) (by rfl) (fun w' hcw => ?_) ?_; rotate_left; ((try dsimp only at hcw); have hbc := hcw.cells; go_simp; first | done | with_reducible rfl); simp only [List.setIfInBounds_toArray, List.set_cons_zero, List.set_cons_succ])
          (refine rgT (i := 5) (v := ?_) rfl rfl (by kernel_rfl) (by kernel_rfl) (by kernel_rfl) (by rfl) (fun w' hcw => ?_) ?_; rotate_left; ((try dsimp only at hcw); have hbc := hcw.cells; go_simp; first | done | with_reducible rfl); simp only [List.setIfInBounds_toArray, List.set_cons_zero, List.set_cons_succ])
          (refine rgT (i := 8) (v := ?_) rfl rfl (by kernel_rfl) (by kernel_rfl) (by kernel_rfl) (by rfl) (fun w' hcw => ?_) ?_; rotate_left; ((try dsimp only at hcw); have hbc := hcw.cells; go_simp; first | done | with_reducible rfl); simp only [List.setIfInBounds_toArray, List.set_cons_zero, List.set_cons_succ])
          (refine rgT (i := 9) (v := ?_) rfl rfl (by kernel_rfl) (by kernel_rfl) (by kernel_rfl) (by rfl) (fun w' hcw => ?_) ?_; rotate_left; ((try dsimp only at hcw); have hbc := hcw.cells; go_simp; first | done | with_reducible rfl); simp only [List.setIfInBounds_toArray, List.set_cons_zero, List.set_cons_succ])
          (refine rgT (i := 10) (v := ?_) rfl rfl (by kernel_rfl) (by kernel_rfl) (by kernel_rfl) (by rfl) (fun w' hcw => ?_) ?_; rotate_left; ((try dsimp only at hcw); have hbc := hcw.cells; go_simp; first | done | with_reducible rfl); simp only [List.setIfInBounds_toArray, List.set_cons_zero, List.set_cons_succ])
          refine ins_tail (T := 51) (e := 24) (i := i0) (z := .slice none 0 0) (size := 1) (bytes := 24) (i0 := 0) (iA := 4) (iN := 6) (iB := 7) (iD := 11) (iE := 12) (s0 := 34) (sA := 38) (sN := 40) (sB := 41) (sD := 45) (dE := 4) (t1 := 37) (t2 := 44) (xn := .tmp 39) (vn := .slice B mb d) (news := vS [(B, mb, d)]) (vs1 := vS (hs.take k)) (vs2 := vS (hs.drop k)) (A1 := some ⟨g, 0, none⟩) (m1 := k) (c1 := cp) (A2 := some ⟨g, offF2 cp k, none⟩) (m2 := m - k) (c2 := cp - k) _ ?ht ?hi ?hz ?h1 ?h2 rfl (by omega) ⟨⟨_, rfl, rfl, rfl, fun a w => ?p0⟩, ⟨_, rfl, rfl, rfl, rfl⟩, ⟨_, rfl, rfl, rfl, fun a w h => ?pN⟩, ⟨_, rfl, rfl, rfl, rfl⟩, ⟨_, rfl, rfl, rfl, rfl⟩, ⟨_, rfl, rfl, rfl, rfl⟩⟩ ⟨by simp, by decide, by decide, by decide⟩ (fun a h => (h.eval (by decide)).trans rfl) (by kernel_rfl) (by kernel_rfl) (by kernel_rfl) (by kernel_rfl) (by kernel_rfl) (by decide) (by decide) (by kernel_rfl) (by kernel_rfl) (by kernel_rfl) (by kernel_rfl) rfl ?q1 ?l1 ?o1 rfl ?q2 ?l2 ?o2 ?ln ?on ?hm ?hb ?hQ
          case ht => exact Tryz.underlying51
          case hi => exact HI.out
          case hz => exact HZ0.out
          case h1 => exact HZ1.out
          case h2 => exact HZ2.out
          case p0 => simp [go_sem, execOp]
          case pN => (generalize Act.eval a = ρ at h ⊢; simp [go_sem, execOp, h, vS, hd])
          case q1 => exact R1.out
          case l1 => rw [vS_length, L1.out] <;> omega
          case o1 => exact vS_one _
          case q2 => exact R2.out
          case l2 => rw [vS_length, L2.out] <;> omega
          case o2 => exact vS_one _
          case ln => rfl
          case on => exact vS_one _
          case hm => omega
          case hb => omega
          case hQ =>
            intro a' w' A' c' hfr hev how hex
            obtain ⟨v0, vA, vN, vB, vD, rfl⟩ := hfr.form hev
            rw [← vS_append, ← vS_append] at how
            obtain ⟨g', rfl, _, _⟩ := own_at how (by omega)
            have HOW := Lib.hid (own_base (base' := base) how (Nat.le_trans hb0 HB.out.size))
            clear how hev hfr
            refine NoPanic.normal ?_
            simp only [List.setIfInBounds_toArray, List.set_cons_zero, List.set_cons_succ]
            go_wp2
            go_ret
            refine ⟨g', k + 1 + (m - k), c', hs.take k ++ [(B, mb, d)] ++ hs.drop k, rfl, ⟨HOW.out, ?_, ?_⟩, bel_trans HB.out hex⟩
            · rw [HV.out]; simp only [List.length_append, List.length_take, List.length_drop, List.length_cons, List.length_nil, HFL.out]; omega
            · intro i x t h1 h2
              rw [HV.out] at h2
              rcases ins_rows2 (by rw [HO.out.hlen, HFL.out]) (by rw [HFL.out]; exact hk) i x t h1 h2 with ⟨j, h3, h4⟩ | ⟨h3, h4⟩
              · exact ((HO.out.row j x t h3 h4).below HB.out).below hex
              · subst h3 h4
                exact (HF.out.below HB.out).below hex
    · obtain rfl : k = 0 := by omega
      have HN : Hid (cutG ltS F f m = 0) := HCUT.out
      have HV := Lib.hid (HIN.out 0 HN.out (fun h => absurd h.1 (by omega)))
      obtain ⟨k, hkz⟩ : ∃ k : Nat, 0 = k := ⟨0, rfl⟩
      have hkp : ¬ 0 < k := by omega
      have hkp2 : decide (0 < k) = false := by simp; omega
      have HKZ := Lib.hid hkz
      rw [hkz] at HV hk
      rw [show ((0 : Nat) : Int) = (k : Int) from by rw [hkz]]
      clear hkz hk0
      obtain ⟨i0, hi, hz0, hz1, hz2⟩ := info_parts infoF2
      have hs1 : ∀ w', (Instr.slice 51 (.slice (some ⟨g, 0, none⟩) m cp) none (some (.int .i64 (k : Int))) none).run Tryz.prog w' = .ok (.slice (some ⟨g, 0, none⟩) k cp) w' := fun w' => run_uptoF w' g m cp k (by omega)
      have hs2 : ∀ w', (Instr.slice 51 (.slice (some ⟨g, 0, none⟩) m cp) (some (.int .i64 (k : Int))) none none).run Tryz.prog w' = .ok (.slice (some ⟨g, offF2 cp k, none⟩) (m - k) (cp - k)) w' := fun w' => run_fromF2 w' g m cp k (by omega)
      have R2 : Hid (Rd wr (some ⟨g, offF2 cp k, none⟩) (vS (hs.drop k))) := Rd.fromF (Rd.of_own (HO.out.below hb).own) (HO.out.hlen) (by omega)
      have R1 : Hid (Rd wr (some ⟨g, 0, none⟩) (vS (hs.take k))) := by
        show Rd _ _ _
        rw [show vS (hs.take k) = (vS hs).take k from by simp [vS]]
        exact Rd.take (Rd.of_own (HO.out.below hb).own) _
      have L1 : Hid ((hs.take k).length = k) := by show (hs.take k).length = k; rw [List.length_take, HO.out.hlen]; omega
      have L2 : Hid ((hs.drop k).length = m - k) := by show (hs.drop k).length = m - k; rw [List.length_drop, HO.out.hlen]
      have HB := Lib.hid hb
      have HI := Lib.hid hi
      have HZ0 := Lib.hid hz0
      have HZ1 := Lib.hid hz1
      have HZ2 := Lib.hid hz2
      clear hi hz0 hz1 hz2
      go_wp2_with fail
      refine wp_region_rg 13 rfl (by kernel_rfl) ?_
      (refine rgT (i := 1) (v := ?_) rfl rfl (by kernel_rfl) (by kernel_rfl) (by kernel_rfl) (by rfl) (fun w' hcw => ?_) ?_; rotate_left; ((try dsimp only at hcw); have hbc := hcw.cells; go_simp; first | done | with_reducible rfl); simp only [List.setIfInBounds_toArray, List.set_cons_zero, List.set_cons_succ])
      (refine rgT (i := 2) (v := ?_) rfl rfl (by kernel_rfl) (by kernel_rfl) (by kernel_rfl) (by rfl) (fun w' hcw => ?_) ?_; rotate_left; ((try dsimp only at hcw); have hbc := hcw.cells; go_simp; first | done | with_reducible rfl); simp only [List.setIfInBounds_toArray, List.set_cons_zero, List.set_cons_succ])
      (refine rgT (i := 3) (v := ?_) rfl rfl (by kernel_rfl) (by kernel_rfl) (by kernel_rfl) (by rfl) (fun w' hcw => ?_) ?_; rotate_left; ((try dsimp only at hcw); have hbc := hcw.cells; go_simp; first | done | with_reducible rfl); simp only [List.setIfInBounds_toArray, List.set_cons_zero, List.set_cons_succ])
      (refine rgT (i := 5) (v := ?_) rfl rfl (by kernel_rfl) (by kernel_rfl) (by kernel_rfl) (by rfl) (fun w' hcw => ?_) ?_; rotate_left; ((try dsimp only at hcw); have hbc := hcw.cells; go_simp; first | done | with_reducible rfl); simp only [List.setIfInBounds_toArray, List.set_cons_zero, List.set_cons_succ])
      (refine rgT (i := 8) (v := ?_) rfl rfl (by kernel_rfl) (by kernel_rfl) (by kernel_rfl) (by rfl) (fun w' hcw => ?_) ?_; rotate_left; ((try dsimp only at hcw); have hbc := hcw.cells; go_simp; first | done | with_reducible rfl); simp only [List.setIfInBounds_toArray, List.set_cons_zero, List.set_cons_succ])
      (refine rgT (i := 9) (v := ?_) rfl rfl (by kernel_rfl) (by kernel_rfl) (by kernel_rfl) (by rfl) (fun w' hcw => ?_) ?_; rotate_left; ((try dsimp only at hcw); have hbc := hcw.cells; go_simp; first | done | with_reducible rfl); simp only [List.setIfInBounds_toArray, List.set_cons_zero, List.set_cons_succ])
      (refine rgT (i := 10) (v := ?_) rfl rfl (by kernel_rfl) (by kernel_rfl) (by kernel_rfl) (by rfl) (fun w' hcw => ?_) ?_; rotate_left; ((try dsimp only at hcw); have hbc := hcw.cells; go_simp; first | done | with_reducible rfl); simp only [List.setIfInBounds_toArray, List.set_cons_zero, List.set_cons_succ])
      refine ins_tail (T := 51) (e := 24) (i := i0) (z := .slice none 0 0) (size := 1) (bytes := 24) (i0 := 0) (iA := 4) (iN := 6) (iB := 7) (iD := 11) (iE := 12) (s0 := 34) (sA := 38) (sN := 40) (sB := 41) (sD := 45) (dE := 4) (t1 := 37) (t2 := 44) (xn := .tmp 39) (vn := .slice B mb d) (news := vS [(B, mb, d)]) (vs1 := vS (hs.take k)) (vs2 := vS (hs.drop k)) (A1 := some ⟨g, 0, none⟩) (m1 := k) (c1 := cp) (A2 := some ⟨g, offF2 cp k, none⟩) (m2 := m - k) (c2 := cp - k) _ ?ht ?hi ?hz ?h1 ?h2 rfl (by omega) ⟨⟨_, rfl, rfl, rfl, fun a w => ?p0⟩, ⟨_, rfl, rfl, rfl, rfl⟩, ⟨_, rfl, rfl, rfl, fun a w h => ?pN⟩, ⟨_, rfl, rfl, rfl, rfl⟩, ⟨_, rfl, rfl, rfl, rfl⟩, ⟨_, rfl, rfl, rfl, rfl⟩⟩ ⟨by simp, by decide, by decide, by decide⟩ (fun a h => (h.eval (by decide)).trans rfl) (by kernel_rfl) (by kernel_rfl) (by kernel_rfl) (by kernel_rfl) (by kernel_rfl) (by decide) (by decide) (by kernel_rfl) (by kernel_rfl) (by kernel_rfl) (by kernel_rfl) rfl ?q1 ?l1 ?o1 rfl ?q2 ?l2 ?o2 ?ln ?on ?hm ?hb ?hQ
      case ht => exact Tryz.underlying51
      case hi => exact HI.out
      case hz => exact HZ0.out
      case h1 => exact HZ1.out
      case h2 => exact HZ2.out
      case p0 => simp [go_sem, execOp]
      case pN => (generalize Act.eval a = ρ at h ⊢; simp [go_sem, execOp, h, vS, hd])
      case q1 => exact R1.out
      case l1 => rw [vS_length, L1.out] <;> omega
      case o1 => exact vS_one _
      case q2 => exact R2.out
      case l2 => rw [vS_length, L2.out] <;> omega
      case o2 => exact vS_one _
      case ln => rfl
      case on => exact vS_one _
      case hm => omega
      case hb => omega
      case hQ =>
        intro a' w' A' c' hfr hev how hex
        obtain ⟨v0, vA, vN, vB, vD, rfl⟩ := hfr.form hev
        rw [← vS_append, ← vS_append] at how
        obtain ⟨g', rfl, _, _⟩ := own_at how (by omega)
        have HOW := Lib.hid (own_base (base' := base) how (Nat.le_trans hb0 HB.out.size))
        clear how hev hfr
        refine NoPanic.normal ?_
        simp only [List.setIfInBounds_toArray, List.set_cons_zero, List.set_cons_succ]
        go_wp2
        go_ret
        refine ⟨g', k + 1 + (m - k), c', hs.take k ++ [(B, mb, d)] ++ hs.drop k, rfl, ⟨HOW.out, ?_, ?_⟩, bel_trans HB.out hex⟩
        · rw [HV.out]; simp only [List.length_append, List.length_take, List.length_drop, List.length_cons, List.length_nil, HFL.out]; omega
        · intro i x t h1 h2
          rw [HV.out] at h2
          rcases ins_rows2 (by rw [HO.out.hlen, HFL.out]) (by rw [HFL.out]; exact hk) i x t h1 h2 with ⟨j, h3, h4⟩ | ⟨h3, h4⟩
          · exact ((HO.out.row j x t h3 h4).below HB.out).below hex
          · subst h3 h4
            exact (HF.out.below HB.out).below hex
end Go.Proofs.YtfnphchcgaebkaaGreat

/- The shapes with one cell more: the reference. -/
namespace Go.Proofs.YtfnphchcgaebkaaGreat
open Go.RowKit
set_option linter.unusedVariables false
attribute [local go_sem ↓] Go.wp_at_zero Go.wp_at_succ

theorem sidesS_small {c : C} (h : onB c = true) : ∀ d ∈ sidesS c, -1 ≤ d.1 ∧ d.1 ≤ 8 ∧ -1 ≤ d.2 ∧ d.2 ≤ 8 := by
  intro d hd
  exact sidesV_small h d ((sides_same c d).2 hd)
theorem own_lit2 (w : World) {base : Nat} (h : base ≤ w.heap.size) : (w.alloc (.cells #[] 40)).ownsRow base 40 2 (.slice (some ⟨w.heap.size, 0, none⟩) 0 0) 0 (vC []) := own_new w _ 2 0 #[] rfl (by simp [maxLen]) h
/-- The shapes with one cell more, as the reference has them: none for a list that is no shape, or has eight cells. -/
def extR (s : List C) : List (List C) := if isShape s = true ∧ s.length ≠ 8 then extV s else []
def RetFA (w : World) (F : List (List C)) (e : Ending) (w' : World) : Prop :=
  ∃ g n c hs, e = .returned (.slice (some ⟨g, 0, none⟩) n c) ∧ OwnF w.heap.size w' (some ⟨g, 0, none⟩) n c hs F ∧ Below w.heap.size w w'
set_option maxRecDepth 100000 in
set_option maxHeartbeats 6400000 in
theorem ExtensionsOf_s (A : Option Addr) (n c : Nat) (xs : List C) (w : World) (hr : Rd w A (vC xs)) (hl : xs.length = n) (hn : n ≤ 1048576) :
    Calls Tryz.prog 65 #[.slice A n c] w (RetFA w (extR xs)) := by
  have hini : (w.alloc (.cells #[] 24)).ownsRow w.heap.size 24 1 (.slice (some ⟨w.heap.size, 0, none⟩) 0 0) 0 [] := own_new w _ 1 0 #[] rfl (by simp [maxLen]) (Nat.le_refl _)
  have HI := Lib.hid (OwnF.none_ hini)
  have HL := Lib.hid hl
  have HR := Lib.hid hr
  have hnn : n ≤ 1099511627776 := by omega
  cases hs : isShape xs with
  | false =>
    have HV : Hid (extR xs = []) := by show extR xs = []; unfold extR; rw [hs]; simp
    have HS := Lib.hid hs
    clear hs hl hr hini
    go_enter Tryz.func65, Tryz.ntmps65
    go_wp2_with fail
    refine (IsShape_s A n c xs _ (HR.out.alloc _) HL.out hnn).mono ?_
    rw [HS.out]
    rintro e w1 ⟨rfl, hb1⟩
    go_wp2_with fail
    go_ret
    exact ⟨w.heap.size, 0, 0, [], rfl, by rw [HV.out]; exact HI.out.below hb1, bel_trans (bel_alloc (Below.refl _ _) _) hb1⟩
  | true =>
    by_cases h8 : n = 8
    · have HV : Hid (extR xs = []) := by show extR xs = []; unfold extR; rw [if_neg (by rw [hl]; simp [h8])]
      have HS := Lib.hid hs
      have e8 : ((n : Int) == 8) = true := by simp [h8]
      have e8n : n = 8 := h8
      clear hs hl hr hini h8 e8n
      go_enter Tryz.func65, Tryz.ntmps65
      go_wp2_with fail
      refine (IsShape_s A n c xs _ (HR.out.alloc _) HL.out hnn).mono ?_
      rw [HS.out]
      rintro e w1 ⟨rfl, hb1⟩
      go_wp2_with fail
      go_ret
      exact ⟨w.heap.size, 0, 0, [], rfl, by rw [HV.out]; exact HI.out.below hb1, bel_trans (bel_alloc (Below.refl _ _) _) hb1⟩
    · have HV : Hid (extR xs = extTo sidesS xs n) := by show extR xs = _; unfold extR; rw [if_pos ⟨hs, by rw [hl]; exact h8⟩, ← hl, ext_same]
      have hn7 : n ≤ 7 := by have := (shape_len hs).2; omega
      have HSH := Lib.hid hs
      have e8 : ((n : Int) == 8) = false := by rw [beq_eq_false_iff_ne]; omega
      have h8n : ¬ n = 8 := h8
      clear hs hl hr hini h8
      go_enter Tryz.func65, Tryz.ntmps65
      go_wp2_with fail
      refine (IsShape_s A n c xs _ (HR.out.alloc _) HL.out hnn).mono ?_
      rw [HSH.out]
      rintro e w1 ⟨rfl, hb1⟩
      have HI1 := Lib.hid (HI.out.below hb1)
      have hbw1 : Below w.heap.size w w1 := bel_trans (bel_alloc (Below.refl _ _) _) hb1
      go_wp2_with fail
      go_loopw [4, 3] (fun e4 e3 wr => ∃ (k g q cq : Nat) (hs : List H), k ≤ n ∧ e4 = .int .i64 k ∧ e3 = .slice (some ⟨g, 0, none⟩) q cq ∧ OwnF w.heap.size wr (some ⟨g, 0, none⟩) q cq hs (extTo sidesS xs k) ∧ Below w.heap.size w wr) (fun e4 _ _ => n - (intOf e4).toNat)
      case atStart => exact ⟨0, _, 0, 0, [], Nat.zero_le _, rfl, rfl, HI1.out, hbw1⟩
      case round =>
        clear HI1 hbw1 hb1
        obtain ⟨k, gD, q, cq, hs, hk, rfl, rfl, hO, hb⟩ := hrel
        by_cases hlt : k < n
        · have hkl : k < xs.length := by rw [HL.out]; exact hlt
          have hk0 : (0 : Int) ≤ (k : Int) := by omega
          have hk1 : (k : Int) < (n : Int) := by omega
          have hon := shape_onB HSH.out _ (List.getElem_mem hkl)
          have hst := extTo_succ sidesS xs k hkl
          have hsl := extTo_len sidesS (fun _ => rfl) xs k (by omega)
          obtain ⟨p, hp⟩ : ∃ p, xs[k].1 = p := ⟨_, rfl⟩
          obtain ⟨r, hrr⟩ : ∃ r, xs[k].2 = r := ⟨_, rfl⟩
          rw [show xs[k] = (p, r) from Prod.ext hp hrr] at hon hst
          have hsv := sidesS_small hon
          have hpr : 0 ≤ p ∧ p ≤ 7 ∧ 0 ≤ r ∧ r ≤ 7 := by simp [onB] at hon; omega
          have hfine := extTo_fine sidesS xs k
          obtain ⟨F0, hF0⟩ : ∃ F0, extTo sidesS xs k = F0 := ⟨_, rfl⟩
          rw [hF0] at hst hsl hO hfine
          have HST := Lib.hid hst
          have HFI := Lib.hid hfine
          have HSV := Lib.hid hsv
          have HO := Lib.hid hO
          have HP := Lib.hid hp
          have HRR := Lib.hid hrr
          have HPR := Lib.hid hpr
          clear hst hfine hsv hO hp hrr hon hF0 hpr
          go_wp2_with fail
          go_loopw [5, 3] (fun e5 e3 wr => ∃ (j g q cq : Nat) (hs : List H) (F : List (List C)), j ≤ 4 ∧ e5 = .int .i64 j ∧ e3 = .slice (some ⟨g, 0, none⟩) q cq ∧ F = ((sidesS (p, r)).take j).foldl (extStep xs) F0 ∧ OwnF w.heap.size wr (some ⟨g, 0, none⟩) q cq hs F ∧ FineF F ∧ F.length ≤ 4 * k + j ∧ Below w.heap.size w wr) (fun e5 _ _ => 4 - (intOf e5).toNat)
          case atStart => exact ⟨0, gD, q, cq, hs, F0, Nat.zero_le _, rfl, rfl, rfl, HO.out, HFI.out, by omega, hb⟩
          case round =>
            clear HO hb hsl HFI
            obtain ⟨j, gD, q, cq, hs, F, hj, rfl, rfl, hF, hO, hfi, hfl, hb⟩ := hrel
            by_cases hj4 : j < 4
            · have hjl : j < (sidesS (p, r)).length := hj4
              have hj0 : (0 : Int) ≤ (j : Int) := by omega
              have hj1 : (j : Int) < 4 := by omega
              have hsm := HSV.out _ (List.getElem_mem hjl)
              have hstep : ((sidesS (p, r)).take (j + 1)).foldl (extStep xs) F0 = extStep xs F (sidesS (p, r))[j] := by
                rw [List.take_succ_eq_append_getElem hjl, List.foldl_append, ← hF]
                rfl
              obtain ⟨da, db, e1, e2, hd1, hd2, hab⟩ : ∃ da db : Int, ((1 : Int) - (j : Int)).tmod 2 = da ∧ ((2 : Int) - (j : Int)).tmod 2 = db ∧ (-1 ≤ da ∧ da ≤ 1) ∧ (-1 ≤ db ∧ db ≤ 1) ∧ (sidesS (p, r))[j] = (p + da, r + db) := by
                rcases (by omega : j = 0 ∨ j = 1 ∨ j = 2 ∨ j = 3) with rfl | rfl | rfl | rfl
                · exact ⟨1, 0, by decide, by decide, by omega, by omega, by simp [sidesS]⟩
                · exact ⟨0, 1, by decide, by decide, by omega, by omega, by simp [sidesS]⟩
                · exact ⟨-1, 0, by decide, by decide, by omega, by omega, by simp [sidesS]; omega⟩
                · exact ⟨0, -1, by decide, by decide, by omega, by omega, by simp [sidesS]; omega⟩
              have hpr := HPR.out
              obtain ⟨x, hx⟩ : ∃ x, p + da = x := ⟨_, rfl⟩
              obtain ⟨y, hy⟩ : ∃ y, r + db = y := ⟨_, rfl⟩
              rw [hab, hx, hy] at hsm hstep
              have v1 : IntKind.i64.wrap ((1 : Int) - (j : Int)) = (1 : Int) - (j : Int) := Go.IntWalk.i64_in _ (by omega)
              have v2 : IntKind.i64.wrap ((2 : Int) - (j : Int)) = (2 : Int) - (j : Int) := Go.IntWalk.i64_in _ (by omega)
              have v3 : IntKind.i64.wrap x = x := Go.IntWalk.i64_in _ (by omega)
              have v4 : IntKind.i64.wrap y = y := Go.IntWalk.i64_in _ (by omega)
              have v5 : IntKind.i64.wrap da = da := Go.IntWalk.i64_in _ (by omega)
              have v6 : IntKind.i64.wrap db = db := Go.IntWalk.i64_in _ (by omega)
              have hsmall := app_small HSH.out hsm
              have HSM := Lib.hid hsmall
              have HF := Lib.hid hF
              have HQF := Lib.hid hO.flen
              have hq33 : q ≤ 4 * k + j := by rw [← hO.flen]; exact hfl
              have HO := Lib.hid hO
              have HFI2 := Lib.hid hfi
              have HX := Lib.hid (HR.out.below hb)
              obtain ⟨g, off, hA, hg, d1, d2⟩ := RdC.at_ (HR.out.below hb) hkl
              subst hA
              rw [HP.out] at d1
              rw [HRR.out] at d2
              clear hF hO hfi hsm hsmall hab hd1 hd2 hpr
              go_wp2_with fail
              (refine wp_region_tailN (C := ExC wr) 19 (by kernel_rfl) (by kernel_rfl) (ExC.drawn _) (fun _ _ h k => ExC.ext h k) ?_; simp only [List.take_succ_cons, List.take_zero, List.drop_succ_cons, List.drop_zero]; (repeat (first | (refine headSkip (by rfl) rfl ?_; simp only [List.setIfInBounds_toArray, List.set_cons_zero, List.set_cons_succ]) | (refine headV (v := ?_) (by rfl) rfl (fun w' hcw => ?_) ?_; rotate_left; ((try dsimp only at hcw); have hbc := hcw.cells; go_simp; first | done | with_reducible rfl | fail); simp only [List.setIfInBounds_toArray, List.set_cons_zero, List.set_cons_succ]))); unfold wpHead)
              (refine tailK (by rfl) (fun b3 hc3 he3 K hK => ?_); go_simp; refine hK _ _ (hc3.ext (bel_alloc (Below.refl _ _) _)) ?_; clear hK K)
              have k3 := Blk.new b3 40 #[.int .i64 0, .int .i64 0]
              have hz3 := he3.size
              refine tailK (by rfl) (fun b4 hc4 he4 K hK => ?_)
              have k4 := k3.below he4
              have q1 : b4.cell? ⟨b3.heap.size, 0, none⟩ = some (.int .i64 0) := by simpa using k4.cell 0
              have q2 : b4.cell? ⟨b3.heap.size, 1, none⟩ = some (.int .i64 0) := by simpa using k4.cell 1
              have f1 := k4.frozen 0
              have f2 := k4.frozen 1
              go_simp
              refine hK _ _ (bel_set (bel_set hc4 (by simp; omega)) (by simp; omega)) ?_
              clear hK K
              (refine fun b5 hc5 he5 => NoPanic.normal ?_)
              have hK5 := ((k4.set_ 0 (.int .i64 x)).set_ 1 (.int .i64 y)).below he5
              have m0 : b5.cell? ⟨b3.heap.size, 0, none⟩ = some (.int .i64 x) := by simpa using hK5.cell 0
              have m1 : b5.cell? ⟨b3.heap.size, 1, none⟩ = some (.int .i64 y) := by simpa using hK5.cell 1
              have ml := hK5.lt
              have HK5 := Lib.hid hK5
              have hbr5 : Below wr.heap.size wr b5 := hc5
              clear k3 k4 hc3 he3 hc4 he4 q1 q2 f1 f2 hc5 he5 hK5 d1 d2
              cases hh : hasC xs x y with
              | true =>
                have HN : Hid (((sidesS (p, r)).take (j + 1)).foldl (extStep xs) F0 = F) := by show _ = F; rw [hstep]; unfold extStep; simp only [hh, if_true]
                have HH := Lib.hid hh
                clear hh hstep
                go_wp2_with fail
                refine (HasCell_s _ n c xs x y _ (HX.out.below hbr5) HL.out hnn).mono ?_
                rw [show hasC xs x y = true from HH.out]
                rintro e w2 ⟨rfl, hb2⟩
                have hb3 := bel_trans hbr5 hb2
                go_wp2_with fail
                exact ⟨⟨j + 1, gD, q, cq, hs, F, by omega, by go_num, rfl, HN.out.symm, HO.out.below hb3, HFI2.out, by have := HQF.out; omega, bel_trans hb hb3⟩, by simp [intOf]; omega⟩
              | false =>
                have HH := Lib.hid hh
                go_wp2_with fail
                refine (HasCell_s _ n c xs x y _ (HX.out.below hbr5) HL.out hnn).mono ?_
                rw [show hasC xs x y = false from HH.out]
                rintro e w2 ⟨rfl, hb2⟩
                have hb2r : Below wr.heap.size wr w2 := bel_trans hbr5 hb2
                have hCB := HK5.out.below hb2
                have z0 : w2.cell? ⟨b3.heap.size, 0, none⟩ = some (.int .i64 x) := by simpa using hCB.cell 0
                have z1 : w2.cell? ⟨b3.heap.size, 1, none⟩ = some (.int .i64 y) := by simpa using hCB.cell 1
                have zl := hCB.lt
                clear hCB m0 m1 ml
                go_wp2_with fail
                refine wp_region_rg 9 rfl (by kernel_rfl) ?_
                (refine rgT (i := 1) (v := ?_) rfl rfl (by kernel_rfl) (by kernel_rfl) (by kernel_rfl) (by rfl) (fun w' hcw => ?_) ?_; rotate_left; ((try dsimp only at hcw); have hbc := hcw.cells; go_simp; first | done | with_reducible rfl); simp only [List.setIfInBounds_toArray, List.set_cons_zero, List.set_cons_succ])
                (refine rgT (i := 3) (v := ?_) rfl rfl (by kernel_rfl) (by kernel_rfl) (by kernel_rfl) (by rfl) (fun w' hcw => ?_) ?_; rotate_left; ((try dsimp only at hcw); have hbc := hcw.cells; go_simp; first | done | with_reducible rfl); simp only [List.setIfInBounds_toArray, List.set_cons_zero, List.set_cons_succ])
                refine rgK_two (i := 0) (k := 4) (by kernel_rfl) rfl rfl rfl rfl (fun u0 hc0 he0 K hK => ?_) (fun u4 hc4 he4 K hK => ?_)
                · go_simp
                  refine hK _ _ (bel_alloc hc0 _) ?_
                  clear hK K
                  refine rgK_two (i := 2) (k := 4) (by kernel_rfl) rfl rfl rfl rfl (fun u2 hc2 he2 K hK => ?_) (fun u4 hc4 he4 K hK => ?_)
                  · refine wpC _ _ _ rfl w2.heap.size (some ⟨u0.heap.size, 0, none⟩) 0 0 [] rfl (own_keep (own_lit2 u0 hc0.size) he2) (some ⟨g, off, none⟩) n c xs rfl (HX.out.below (bel_trans hb2r hc2)) HL.out (by omega) (hc2.size) ?_
                    intro DD cD w3 ho3 hg3 hat3
                    have hx3 : Below w2.heap.size w2 w3 := bel_app hc2 hg3 (fun g h => by simp only [ob, Option.map_some, Option.some.injEq] at h; subst h; exact hc0.size)
                    refine hK _ _ hx3 ?_
                    clear hK K
                    simp only [Act.put, List.setIfInBounds_toArray, Nat.zero_add]
                    simp only [Nat.zero_add, List.nil_append] at ho3
                    have HOD := Lib.hid ho3
                    have HDL : Hid (∀ g, ob DD = some g → w2.heap.size ≤ g) := fun g e => (own_lt HOD.out g e).1
                    have hgu0 := hc0.size
                    clear ho3
                    refine rgK_one (i := 4) (by kernel_rfl) rfl rfl (fun u4 hc4 he4 K hK => ?_)
                    go_simp
                    refine hK _ _ (bel_alloc hc4 _) ?_
                    clear hK K
                    refine rgK_one (i := 5) (by kernel_rfl) rfl rfl (fun u5 hc5 he5 K hK => ?_)
                    refine wpC _ _ _ rfl w2.heap.size DD n cD xs rfl (own_keep (own_keep HOD.out (bel_trans he4 (bel_alloc (Below.refl _ _) _))) he5) _ 1 1 [(x, y)] rfl ((rd_newC u4 _ x y).below he5) rfl (by omega) (hc5.size) ?_
                    intro D2 c2 w5 ho5 hg5 _
                    have hx5 : Below w2.heap.size w2 w5 := bel_app hc5 hg5 (fun g h => HDL.out g h)
                    refine hK _ _ hx5 ?_
                    clear hK K
                    simp only [Act.put, List.setIfInBounds_toArray]
                    have HO5 := Lib.hid ho5
                    clear ho5 hg5
                    refine rgK_one (i := 6) (by kernel_rfl) rfl rfl (fun u6 hc6 he6 K hK => ?_)
                    go_simp
                    refine (SortCells_s D2 (n + 1) c2 (xs ++ [(x, y)]) _ (Rd.of_own (own_keep HO5.out he6)) (by simp [HL.out]) (by omega)).mono ?_
                    rintro e w6 ⟨E, m, cE, rfl, ho6, hb6⟩
                    have hx6 : Below w2.heap.size w2 w6 := bel_trans hc6 hb6
                    refine hK _ _ hx6 ?_
                    clear hK K
                    have hml : (sortC (xs ++ [(x, y)])).length = m := by have := own_len ho6; rw [vC_length] at this; omega
                    have hm9 : m ≤ 8 := by have := sortC_len (xs ++ [(x, y)]); rw [hml] at this; simp [HL.out] at this; omega
                    have HML6 := Lib.hid hml
                    have HO6 := Lib.hid ho6
                    clear ho6 hml
                    refine rgK_one (i := 7) (by kernel_rfl) rfl rfl (fun u7 hc7 he7 K hK => ?_)
                    go_simp
                    refine (l2Corner_s E m cE (sortC (xs ++ [(x, y)])) _ (Rd.of_own (own_keep HO6.out he7)) HML6.out (by omega) (fun d hd => HSM.out d ((sortC_mem _ _).1 hd))).mono ?_
                    rw [← corn_eq (s := xs ++ [(x, y)]) (by simp)]
                    rintro e w7 ⟨E2, m2, cE2, rfl, ho7, hb7⟩
                    have hx7 : Below w2.heap.size w2 w7 := bel_trans hc7 hb7
                    refine hK _ _ hx7 ?_
                    clear hK K
                    have HO7 := Lib.hid ho7
                    clear ho7
                    refine rgK_one (i := 8) (by kernel_rfl) rfl rfl (fun u8 hc8 he8 K hK => ?_)
                    go_simp
                    refine hK _ _ hc8 ?_
                    clear hK K
                    refine ⟨by kernel_rfl, fun wz hcz hez => NoPanic.normal ?_⟩
                    have HO9 := Lib.hid (own_keep (own_keep HO7.out he8) hez)
                    have hbz : Below w2.heap.size w2 wz := hcz
                    have hb39 : Below wr.heap.size wr wz := bel_trans hb2r hbz
                    have hb9 : Below w.heap.size w wz := bel_trans hb hb39
                    clear HO6 HO5 HO7 HML6 hx5 hc5 he5 hb6 hx6 hc6 he6 hc7 he7 hb7 hx7 hc8 he8 hcz hez
                    have hml : (cornI (xs ++ [(x, y)])).length = m2 := by have := own_len HO9.out; rw [vC_length] at this; omega
                    have hm13 : m2 ≤ 9 := by have := cornI_len (xs ++ [(x, y)]); rw [hml] at this; simp [HL.out] at this; omega
                    have hdef : extStep xs F (x, y) = if isShape (cornI (xs ++ [(x, y)])) then putG ltS F (cornI (xs ++ [(x, y)])) else F := by unfold extStep; simp only [hh, Bool.false_eq_true, if_false]
                    rw [hdef] at hstep
                    obtain ⟨s2, hs2⟩ : ∃ s2, cornI (xs ++ [(x, y)]) = s2 := ⟨_, rfl⟩
                    rw [hs2] at hml hstep HO9
                    have HML := Lib.hid hml
                    cases hsh : isShape s2 with
                    | true =>
                      rw [hsh, if_pos rfl] at hstep
                      have HSTEP := Lib.hid hstep
                      have HS2 := Lib.hid hsh
                      clear hstep hsh hml hs2 hdef hh
                      go_wp2_with fail
                      refine (IsShape_s E2 m2 cE2 s2 _ (Rd.of_own HO9.out) HML.out (by omega)).mono ?_
                      rw [HS2.out]
                      rintro e w8 ⟨rfl, hb8⟩
                      have HOF := Lib.hid (HO.out.below (bel_trans hb39 hb8))
                      have HOE := Lib.hid (own_keep HO9.out hb8)
                      go_wp2_with fail
                      refine (l3Put_s gD q cq hs F E2 m2 cE2 s2 w.heap.size _ HOF.out (CRow.of_own HOE.out) (fun x hx => by have := HFI2.out.len x hx; omega) (by omega) (by omega) (by have := hb9.size; have := hb8.size; omega)).mono ?_
                      rw [← HSTEP.out]
                      rintro e w9 ⟨gE, q3, c3, hs3, rfl, hO8, hb10⟩
                      have HO8 := Lib.hid hO8
                      have HFL8 : Hid ((((sidesS (p, r)).take (j + 1)).foldl (extStep xs) F0).length ≤ 4 * k + (j + 1)) := by
                        show _ ≤ _
                        rw [HSTEP.out]
                        have := putG_len (lt := ltS) F s2
                        have := HQF.out
                        omega
                      have HF8 : Hid (FineF (((sidesS (p, r)).take (j + 1)).foldl (extStep xs) F0)) := by show FineF _; rw [HSTEP.out]; exact HFI2.out.put HS2.out
                      clear hO8
                      go_wp2_with fail
                      exact ⟨⟨j + 1, gE, q3, c3, hs3, _, by omega, by go_num, rfl, rfl, HO8.out, HF8.out, HFL8.out, bel_trans hb9 (bel_trans hb8 hb10)⟩, by simp [intOf]; omega⟩
                    | false =>
                      rw [hsh] at hstep
                      have HSTEP : Hid (((sidesS (p, r)).take (j + 1)).foldl (extStep xs) F0 = F) := by show _ = F; rw [hstep]; rfl
                      have HS2 := Lib.hid hsh
                      clear hstep hsh hml hs2 hdef hh
                      go_wp2_with fail
                      refine (IsShape_s E2 m2 cE2 s2 _ (Rd.of_own HO9.out) HML.out (by omega)).mono ?_
                      rw [HS2.out]
                      rintro e w8 ⟨rfl, hb8⟩
                      go_wp2_with fail
                      exact ⟨⟨j + 1, gD, q, cq, hs, F, by omega, by go_num, rfl, HSTEP.out.symm, HO.out.below (bel_trans hb39 hb8), HFI2.out, by have := HQF.out; omega, bel_trans hb9 hb8⟩, by simp [intOf]; omega⟩
                  · go_simp
                    refine hK _ _ (bel_alloc hc4 _) ?_
                    clear hK K
                    refine rgK_one (i := 2) (by kernel_rfl) rfl rfl (fun u2 hc2 he2 K hK => ?_)
                    refine wpC _ _ _ rfl w2.heap.size (some ⟨u0.heap.size, 0, none⟩) 0 0 [] rfl (own_keep ((own_keep (own_lit2 u0 hc0.size) he4).alloc _) he2) (some ⟨g, off, none⟩) n c xs rfl (HX.out.below (bel_trans hb2r hc2)) HL.out (by omega) (hc2.size) ?_
                    intro DD cD w3 ho3 hg3 hat3
                    have hx3 : Below w2.heap.size w2 w3 := bel_app hc2 hg3 (fun g h => by simp only [ob, Option.map_some, Option.some.injEq] at h; subst h; exact hc0.size)
                    refine hK _ _ hx3 ?_
                    clear hK K
                    simp only [Act.put, List.setIfInBounds_toArray, Nat.zero_add]
                    simp only [Nat.zero_add, List.nil_append] at ho3
                    have HOD := Lib.hid ho3
                    have HDL : Hid (∀ g, ob DD = some g → w2.heap.size ≤ g) := fun g e => (own_lt HOD.out g e).1
                    have hgu0 := hc0.size
                    clear ho3
                    have hz4 := he4.size
                    simp only [World.size_alloc] at hz4
                    refine rgK_one (i := 5) (by kernel_rfl) rfl rfl (fun u5 hc5 he5 K hK => ?_)
                    refine wpC _ _ _ rfl w2.heap.size DD n cD xs rfl (own_keep HOD.out he5) _ 1 1 [(x, y)] rfl ((((rd_newC u4 _ x y).below he2).grown hg3 (fun g e r => by simp only [ob, Option.map_some, Option.some.injEq] at e r; omega)).below he5) rfl (by omega) (hc5.size) ?_
                    intro D2 c2 w5 ho5 hg5 _
                    have hx5 : Below w2.heap.size w2 w5 := bel_app hc5 hg5 (fun g h => HDL.out g h)
                    refine hK _ _ hx5 ?_
                    clear hK K
                    simp only [Act.put]
                    have HO5 := Lib.hid ho5
                    clear ho5 hg5
                    refine rgK_one (i := 6) (by kernel_rfl) rfl rfl (fun u6 hc6 he6 K hK => ?_)
                    go_simp
                    refine (SortCells_s D2 (n + 1) c2 (xs ++ [(x, y)]) _ (Rd.of_own (own_keep HO5.out he6)) (by simp [HL.out]) (by omega)).mono ?_
                    rintro e w6 ⟨E, m, cE, rfl, ho6, hb6⟩
                    have hx6 : Below w2.heap.size w2 w6 := bel_trans hc6 hb6
                    refine hK _ _ hx6 ?_
                    clear hK K
                    have hml : (sortC (xs ++ [(x, y)])).length = m := by have := own_len ho6; rw [vC_length] at this; omega
                    have hm9 : m ≤ 8 := by have := sortC_len (xs ++ [(x, y)]); rw [hml] at this; simp [HL.out] at this; omega
                    have HML6 := Lib.hid hml
                    have HO6 := Lib.hid ho6
                    clear ho6 hml
                    refine rgK_one (i := 7) (by kernel_rfl) rfl rfl (fun u7 hc7 he7 K hK => ?_)
                    go_simp
                    refine (l2Corner_s E m cE (sortC (xs ++ [(x, y)])) _ (Rd.of_own (own_keep HO6.out he7)) HML6.out (by omega) (fun d hd => HSM.out d ((sortC_mem _ _).1 hd))).mono ?_
                    rw [← corn_eq (s := xs ++ [(x, y)]) (by simp)]
                    rintro e w7 ⟨E2, m2, cE2, rfl, ho7, hb7⟩
                    have hx7 : Below w2.heap.size w2 w7 := bel_trans hc7 hb7
                    refine hK _ _ hx7 ?_
                    clear hK K
                    have HO7 := Lib.hid ho7
                    clear ho7
                    refine rgK_one (i := 8) (by kernel_rfl) rfl rfl (fun u8 hc8 he8 K hK => ?_)
                    go_simp
                    refine hK _ _ hc8 ?_
                    clear hK K
                    refine ⟨by kernel_rfl, fun wz hcz hez => NoPanic.normal ?_⟩
                    have HO9 := Lib.hid (own_keep (own_keep HO7.out he8) hez)
                    have hbz : Below w2.heap.size w2 wz := hcz
                    have hb39 : Below wr.heap.size wr wz := bel_trans hb2r hbz
                    have hb9 : Below w.heap.size w wz := bel_trans hb hb39
                    clear HO6 HO5 HO7 HML6 hx5 hc5 he5 hb6 hx6 hc6 he6 hc7 he7 hb7 hx7 hc8 he8 hcz hez
                    have hml : (cornI (xs ++ [(x, y)])).length = m2 := by have := own_len HO9.out; rw [vC_length] at this; omega
                    have hm13 : m2 ≤ 9 := by have := cornI_len (xs ++ [(x, y)]); rw [hml] at this; simp [HL.out] at this; omega
                    have hdef : extStep xs F (x, y) = if isShape (cornI (xs ++ [(x, y)])) then putG ltS F (cornI (xs ++ [(x, y)])) else F := by unfold extStep; simp only [hh, Bool.false_eq_true, if_false]
                    rw [hdef] at hstep
                    obtain ⟨s2, hs2⟩ : ∃ s2, cornI (xs ++ [(x, y)]) = s2 := ⟨_, rfl⟩
                    rw [hs2] at hml hstep HO9
                    have HML := Lib.hid hml
                    cases hsh : isShape s2 with
                    | true =>
                      rw [hsh, if_pos rfl] at hstep
                      have HSTEP := Lib.hid hstep
                      have HS2 := Lib.hid hsh
                      clear hstep hsh hml hs2 hdef hh
                      go_wp2_with fail
                      refine (IsShape_s E2 m2 cE2 s2 _ (Rd.of_own HO9.out) HML.out (by omega)).mono ?_
                      rw [HS2.out]
                      rintro e w8 ⟨rfl, hb8⟩
                      have HOF := Lib.hid (HO.out.below (bel_trans hb39 hb8))
                      have HOE := Lib.hid (own_keep HO9.out hb8)
                      go_wp2_with fail
                      refine (l3Put_s gD q cq hs F E2 m2 cE2 s2 w.heap.size _ HOF.out (CRow.of_own HOE.out) (fun x hx => by have := HFI2.out.len x hx; omega) (by omega) (by omega) (by have := hb9.size; have := hb8.size; omega)).mono ?_
                      rw [← HSTEP.out]
                      rintro e w9 ⟨gE, q3, c3, hs3, rfl, hO8, hb10⟩
                      have HO8 := Lib.hid hO8
                      have HFL8 : Hid ((((sidesS (p, r)).take (j + 1)).foldl (extStep xs) F0).length ≤ 4 * k + (j + 1)) := by
                        show _ ≤ _
                        rw [HSTEP.out]
                        have := putG_len (lt := ltS) F s2
                        have := HQF.out
                        omega
                      have HF8 : Hid (FineF (((sidesS (p, r)).take (j + 1)).foldl (extStep xs) F0)) := by show FineF _; rw [HSTEP.out]; exact HFI2.out.put HS2.out
                      clear hO8
                      go_wp2_with fail
                      exact ⟨⟨j + 1, gE, q3, c3, hs3, _, by omega, by go_num, rfl, rfl, HO8.out, HF8.out, HFL8.out, bel_trans hb9 (bel_trans hb8 hb10)⟩, by simp [intOf]; omega⟩
                    | false =>
                      rw [hsh] at hstep
                      have HSTEP : Hid (((sidesS (p, r)).take (j + 1)).foldl (extStep xs) F0 = F) := by show _ = F; rw [hstep]; rfl
                      have HS2 := Lib.hid hsh
                      clear hstep hsh hml hs2 hdef hh
                      go_wp2_with fail
                      refine (IsShape_s E2 m2 cE2 s2 _ (Rd.of_own HO9.out) HML.out (by omega)).mono ?_
                      rw [HS2.out]
                      rintro e w8 ⟨rfl, hb8⟩
                      go_wp2_with fail
                      exact ⟨⟨j + 1, gD, q, cq, hs, F, by omega, by go_num, rfl, HSTEP.out.symm, HO.out.below (bel_trans hb39 hb8), HFI2.out, by have := HQF.out; omega, bel_trans hb9 hb8⟩, by simp [intOf]; omega⟩
                · go_simp
                  refine hK _ _ (bel_alloc hc4 _) ?_
                  clear hK K
                  refine rgK_one (i := 0) (by kernel_rfl) rfl rfl (fun u0 hc0 he0 K hK => ?_)
                  go_simp
                  refine hK _ _ (bel_alloc hc0 _) ?_
                  clear hK K
                  refine rgK_one (i := 2) (by kernel_rfl) rfl rfl (fun u2 hc2 he2 K hK => ?_)
                  refine wpC _ _ _ rfl w2.heap.size (some ⟨u0.heap.size, 0, none⟩) 0 0 [] rfl (own_keep (own_lit2 u0 hc0.size) he2) (some ⟨g, off, none⟩) n c xs rfl (HX.out.below (bel_trans hb2r hc2)) HL.out (by omega) (hc2.size) ?_
                  intro DD cD w3 ho3 hg3 hat3
                  have hx3 : Below w2.heap.size w2 w3 := bel_app hc2 hg3 (fun g h => by simp only [ob, Option.map_some, Option.some.injEq] at h; subst h; exact hc0.size)
                  refine hK _ _ hx3 ?_
                  clear hK K
                  simp only [Act.put, List.setIfInBounds_toArray, Nat.zero_add]
                  simp only [Nat.zero_add, List.nil_append] at ho3
                  have HOD := Lib.hid ho3
                  have HDL : Hid (∀ g, ob DD = some g → w2.heap.size ≤ g) := fun g e => (own_lt HOD.out g e).1
                  have hgu0 := hc0.size
                  clear ho3
                  have hz0 := he0.size
                  simp only [World.size_alloc] at hz0
                  refine rgK_one (i := 5) (by kernel_rfl) rfl rfl (fun u5 hc5 he5 K hK => ?_)
                  refine wpC _ _ _ rfl w2.heap.size DD n cD xs rfl (own_keep HOD.out he5) _ 1 1 [(x, y)] rfl ((((((rd_newC u4 _ x y).below he0).alloc _).below he2).grown hg3 (fun g e r => by simp only [ob, Option.map_some, Option.some.injEq] at e r; omega)).below he5) rfl (by omega) (hc5.size) ?_
                  intro D2 c2 w5 ho5 hg5 _
                  have hx5 : Below w2.heap.size w2 w5 := bel_app hc5 hg5 (fun g h => HDL.out g h)
                  refine hK _ _ hx5 ?_
                  clear hK K
                  simp only [Act.put]
                  have HO5 := Lib.hid ho5
                  clear ho5 hg5
                  refine rgK_one (i := 6) (by kernel_rfl) rfl rfl (fun u6 hc6 he6 K hK => ?_)
                  go_simp
                  refine (SortCells_s D2 (n + 1) c2 (xs ++ [(x, y)]) _ (Rd.of_own (own_keep HO5.out he6)) (by simp [HL.out]) (by omega)).mono ?_
                  rintro e w6 ⟨E, m, cE, rfl, ho6, hb6⟩
                  have hx6 : Below w2.heap.size w2 w6 := bel_trans hc6 hb6
                  refine hK _ _ hx6 ?_
                  clear hK K
                  have hml : (sortC (xs ++ [(x, y)])).length = m := by have := own_len ho6; rw [vC_length] at this; omega
                  have hm9 : m ≤ 8 := by have := sortC_len (xs ++ [(x, y)]); rw [hml] at this; simp [HL.out] at this; omega
                  have HML6 := Lib.hid hml
                  have HO6 := Lib.hid ho6
                  clear ho6 hml
                  refine rgK_one (i := 7) (by kernel_rfl) rfl rfl (fun u7 hc7 he7 K hK => ?_)
                  go_simp
                  refine (l2Corner_s E m cE (sortC (xs ++ [(x, y)])) _ (Rd.of_own (own_keep HO6.out he7)) HML6.out (by omega) (fun d hd => HSM.out d ((sortC_mem _ _).1 hd))).mono ?_
                  rw [← corn_eq (s := xs ++ [(x, y)]) (by simp)]
                  rintro e w7 ⟨E2, m2, cE2, rfl, ho7, hb7⟩
                  have hx7 : Below w2.heap.size w2 w7 := bel_trans hc7 hb7
                  refine hK _ _ hx7 ?_
                  clear hK K
                  have HO7 := Lib.hid ho7
                  clear ho7
                  refine rgK_one (i := 8) (by kernel_rfl) rfl rfl (fun u8 hc8 he8 K hK => ?_)
                  go_simp
                  refine hK _ _ hc8 ?_
                  clear hK K
                  refine ⟨by kernel_rfl, fun wz hcz hez => NoPanic.normal ?_⟩
                  have HO9 := Lib.hid (own_keep (own_keep HO7.out he8) hez)
                  have hbz : Below w2.heap.size w2 wz := hcz
                  have hb39 : Below wr.heap.size wr wz := bel_trans hb2r hbz
                  have hb9 : Below w.heap.size w wz := bel_trans hb hb39
                  clear HO6 HO5 HO7 HML6 hx5 hc5 he5 hb6 hx6 hc6 he6 hc7 he7 hb7 hx7 hc8 he8 hcz hez
                  have hml : (cornI (xs ++ [(x, y)])).length = m2 := by have := own_len HO9.out; rw [vC_length] at this; omega
                  have hm13 : m2 ≤ 9 := by have := cornI_len (xs ++ [(x, y)]); rw [hml] at this; simp [HL.out] at this; omega
                  have hdef : extStep xs F (x, y) = if isShape (cornI (xs ++ [(x, y)])) then putG ltS F (cornI (xs ++ [(x, y)])) else F := by unfold extStep; simp only [hh, Bool.false_eq_true, if_false]
                  rw [hdef] at hstep
                  obtain ⟨s2, hs2⟩ : ∃ s2, cornI (xs ++ [(x, y)]) = s2 := ⟨_, rfl⟩
                  rw [hs2] at hml hstep HO9
                  have HML := Lib.hid hml
                  cases hsh : isShape s2 with
                  | true =>
                    rw [hsh, if_pos rfl] at hstep
                    have HSTEP := Lib.hid hstep
                    have HS2 := Lib.hid hsh
                    clear hstep hsh hml hs2 hdef hh
                    go_wp2_with fail
                    refine (IsShape_s E2 m2 cE2 s2 _ (Rd.of_own HO9.out) HML.out (by omega)).mono ?_
                    rw [HS2.out]
                    rintro e w8 ⟨rfl, hb8⟩
                    have HOF := Lib.hid (HO.out.below (bel_trans hb39 hb8))
                    have HOE := Lib.hid (own_keep HO9.out hb8)
                    go_wp2_with fail
                    refine (l3Put_s gD q cq hs F E2 m2 cE2 s2 w.heap.size _ HOF.out (CRow.of_own HOE.out) (fun x hx => by have := HFI2.out.len x hx; omega) (by omega) (by omega) (by have := hb9.size; have := hb8.size; omega)).mono ?_
                    rw [← HSTEP.out]
                    rintro e w9 ⟨gE, q3, c3, hs3, rfl, hO8, hb10⟩
                    have HO8 := Lib.hid hO8
                    have HFL8 : Hid ((((sidesS (p, r)).take (j + 1)).foldl (extStep xs) F0).length ≤ 4 * k + (j + 1)) := by
                      show _ ≤ _
                      rw [HSTEP.out]
                      have := putG_len (lt := ltS) F s2
                      have := HQF.out
                      omega
                    have HF8 : Hid (FineF (((sidesS (p, r)).take (j + 1)).foldl (extStep xs) F0)) := by show FineF _; rw [HSTEP.out]; exact HFI2.out.put HS2.out
                    clear hO8
                    go_wp2_with fail
                    exact ⟨⟨j + 1, gE, q3, c3, hs3, _, by omega, by go_num, rfl, rfl, HO8.out, HF8.out, HFL8.out, bel_trans hb9 (bel_trans hb8 hb10)⟩, by simp [intOf]; omega⟩
                  | false =>
                    rw [hsh] at hstep
                    have HSTEP : Hid (((sidesS (p, r)).take (j + 1)).foldl (extStep xs) F0 = F) := by show _ = F; rw [hstep]; rfl
                    have HS2 := Lib.hid hsh
                    clear hstep hsh hml hs2 hdef hh
                    go_wp2_with fail
                    refine (IsShape_s E2 m2 cE2 s2 _ (Rd.of_own HO9.out) HML.out (by omega)).mono ?_
                    rw [HS2.out]
                    rintro e w8 ⟨rfl, hb8⟩
                    go_wp2_with fail
                    exact ⟨⟨j + 1, gD, q, cq, hs, F, by omega, by go_num, rfl, HSTEP.out.symm, HO.out.below (bel_trans hb39 hb8), HFI2.out, by have := HQF.out; omega, bel_trans hb9 hb8⟩, by simp [intOf]; omega⟩
            · obtain rfl : j = 4 := by omega
              have HN : Hid (extTo sidesS xs (k + 1) = F) := by show _ = F; rw [HST.out, hF]; rfl
              rw [← HN.out] at hO
              have HO := Lib.hid hO
              clear hO hF
              go_wp2_with fail
              exact ⟨⟨k + 1, gD, q, cq, hs, by omega, by go_num, rfl, HO.out, hb⟩, by simp [intOf]; omega⟩
        · obtain rfl : k = n := by omega
          rw [← HV.out] at hO
          have HO := Lib.hid hO
          have hk1 : ¬ (k : Int) < (k : Int) := by omega
          clear hO
          go_wp2
          go_ret
          exact ⟨gD, q, cq, hs, rfl, HO.out, hb⟩
end Go.Proofs.YtfnphchcgaebkaaGreat

/- Shapes counted by growth: plain functions, the numbers up to six cells. No program is in sight. -/
namespace Go.Proofs.YtfnphchcgaebkaaGreat
open Go.RowKit
set_option linter.unusedVariables false
def okY (y : C) : Bool := decide (y.2 > 0) || (y.2 == 0 && decide (y.1 ≥ 0))
def stepM (mk : List C × List C) (y : C) : List C × List C := if okY y && !hasC mk.2 y.1 y.2 then (mk.1 ++ [y], mk.2 ++ [y]) else mk
def more4 (x : C) (more known : List C) (j : Nat) : List C × List C := ((sidesS x).take j).foldl stepM (more, known)
def growC : Nat → List C → List C → Nat
  | 0, u, _ => u.length
  | l + 1, u, s => ((List.range u.length).map fun k => 1 + growC l (more4 (u.getD k default) (u.take k) s 4).1 (more4 (u.getD k default) (u.take k) s 4).2).sum
def termC : Nat → List C → List C → Nat → Nat
  | 0, _, _, _ => 1
  | l + 1, u, s, k => 1 + growC l (more4 (u.getD k default) (u.take k) s 4).1 (more4 (u.getD k default) (u.take k) s 4).2
def growK (l : Nat) (u s : List C) (k : Nat) : Nat := ((List.range k).map (termC l u s)).sum
theorem growK_succ (l : Nat) (u s : List C) (k : Nat) : growK l u s (k + 1) = growK l u s k + termC l u s k := by
  unfold growK
  rw [List.range_succ, List.map_append, List.sum_append]
  simp
theorem growK_all (l : Nat) (u s : List C) : growK l u s u.length = growC l u s := by
  cases l with
  | zero =>
    have h : ∀ n, ((List.range n).map (termC 0 u s)).sum = n := by
      intro n
      induction n with
      | zero => rfl
      | succ n ih =>
        rw [List.range_succ, List.map_append, List.sum_append, ih]
        rfl
    exact h u.length
  | succ l => rfl
theorem more4_succ (x : C) (a b : List C) (j : Nat) (h : j < 4) : more4 x a b (j + 1) = stepM (more4 x a b j) ((sidesS x).getD j default) := by
  unfold more4
  have hl : j < (sidesS x).length := h
  rw [List.take_succ_eq_append_getElem hl, List.foldl_append, getD_in _ hl]
  rfl
theorem stepM_len (mk : List C × List C) (y : C) : (stepM mk y).1.length ≤ mk.1.length + 1 ∧ (stepM mk y).2.length ≤ mk.2.length + 1 := by
  unfold stepM
  split <;> simp
theorem more4_len (x : C) (a b : List C) : ∀ j, j ≤ 4 → (more4 x a b j).1.length ≤ a.length + j ∧ (more4 x a b j).2.length ≤ b.length + j
  | 0, _ => by simp [more4]
  | j + 1, h => by
    rw [more4_succ x a b j (by omega)]
    have h1 := more4_len x a b j (by omega)
    have h2 := stepM_len (more4 x a b j) ((sidesS x).getD j default)
    omega
def near0 (r : Int) (c : C) : Prop := -r ≤ c.1 ∧ c.1 ≤ r ∧ -r ≤ c.2 ∧ c.2 ≤ r
theorem sidesS_near {r : Int} {x : C} (h : near0 r x) : ∀ y ∈ sidesS x, near0 (r + 1) y := by
  intro y hy
  unfold near0 at h ⊢
  simp only [sidesS, List.mem_cons, List.not_mem_nil, or_false] at hy
  rcases hy with rfl | rfl | rfl | rfl <;> (simp only; omega)
theorem more4_near {r : Int} {x : C} {a b : List C} (hx : near0 r x) (ha : ∀ c ∈ a, near0 (r + 1) c) (hb : ∀ c ∈ b, near0 (r + 1) c) : ∀ j, j ≤ 4 → (∀ c ∈ (more4 x a b j).1, near0 (r + 1) c) ∧ (∀ c ∈ (more4 x a b j).2, near0 (r + 1) c)
  | 0, _ => ⟨ha, hb⟩
  | j + 1, h => by
    rw [more4_succ x a b j (by omega)]
    obtain ⟨h1, h2⟩ := more4_near hx ha hb j (by omega)
    have hy : near0 (r + 1) ((sidesS x).getD j default) := sidesS_near hx _ (getD_mem (show j < (sidesS x).length by show j < 4; omega))
    unfold stepM
    split
    · refine ⟨fun c hc => ?_, fun c hc => ?_⟩
      · rcases List.mem_append.1 hc with h3 | h3
        · exact h1 c h3
        · simp only [List.mem_singleton] at h3; rw [h3]; exact hy
      · rcases List.mem_append.1 hc with h3 | h3
        · exact h2 c h3
        · simp only [List.mem_singleton] at h3; rw [h3]; exact hy
    · exact ⟨h1, h2⟩
theorem sum_le (f : Nat → Nat) (B : Nat) : ∀ n, (∀ k, k < n → f k ≤ B) → ((List.range n).map f).sum ≤ n * B
  | 0, _ => by simp
  | n + 1, h => by
    rw [List.range_succ, List.map_append, List.sum_append]
    have := sum_le f B n (fun k hk => h k (by omega))
    have := h n (by omega)
    simp only [List.map_cons, List.map_nil, List.sum_cons, List.sum_nil, Nat.add_zero, Nat.add_mul, Nat.one_mul]
    omega
theorem growC_le : ∀ (l : Nat) (u s : List C), u.length + 4 * l ≤ 24 → growC l u s ≤ 25 ^ (l + 1)
  | 0, u, s, h => by simp [growC]; omega
  | l + 1, u, s, h => by
    unfold growC
    have hb : ∀ k, k < u.length → 1 + growC l (more4 (u.getD k default) (u.take k) s 4).1 (more4 (u.getD k default) (u.take k) s 4).2 ≤ 1 + 25 ^ (l + 1) := by
      intro k hk
      have h1 := (more4_len (u.getD k default) (u.take k) s 4 (Nat.le_refl _)).1
      rw [List.length_take] at h1
      have := growC_le l (more4 (u.getD k default) (u.take k) s 4).1 (more4 (u.getD k default) (u.take k) s 4).2 (by omega)
      omega
    have h2 := sum_le _ _ u.length hb
    have h3 : u.length ≤ 24 := by omega
    have h4 : u.length * (1 + 25 ^ (l + 1)) ≤ 24 * (1 + 25 ^ (l + 1)) := Nat.mul_le_mul_right _ h3
    have h5 : 25 ≤ 25 ^ (l + 1) := by have := Nat.pow_le_pow_right (show 0 < 25 by omega) (show 1 ≤ l + 1 by omega); simpa using this
    have h6 : 25 ^ (l + 1 + 1) = 25 * 25 ^ (l + 1) := by rw [Nat.pow_succ]; omega
    omega
/-- The reference's number. -/
def cntS (n : Nat) : Int := if n = 1 then (growC 0 [(0, 0)] [(0, 0)] : Nat) else (growC (n - 1) [(0, 0)] [(0, 0)] : Nat) - (growC (n - 2) [(0, 0)] [(0, 0)] : Nat)
/-- A list taken apart and put together again, so that the kernel has it at hand. -/
def frcI {β : Type} (x : Int) (k : Int → β) : β := match x with
  | .ofNat 0 => k 0
  | .ofNat (m + 1) => k (.ofNat (m + 1))
  | .negSucc 0 => k (.negSucc 0)
  | .negSucc (m + 1) => k (.negSucc (m + 1))
def frcS {β : Type} (s : List C) (k : List C → β) : β := match s with
  | [] => k []
  | a :: t => frcI a.1 fun x => frcI a.2 fun y => frcS t fun t' => k ((x, y) :: t')
def frcL {α β : Type} (l : List α) (k : List α → β) : β := match l with
  | [] => k []
  | a :: t => frcL t fun t' => k (a :: t')
theorem frcI_eq {β : Type} (x : Int) (k : Int → β) : frcI x k = k x := by unfold frcI; split <;> rfl
theorem frcS_eq {β : Type} : ∀ (s : List C) (k : List C → β), frcS s k = k s
  | [], k => rfl
  | a :: t, k => by unfold frcS; rw [frcI_eq, frcI_eq, frcS_eq t]
theorem frcL_eq {α β : Type} : ∀ (s : List α) (k : List α → β), frcL s k = k s
  | [], k => rfl
  | a :: t, k => by unfold frcL; rw [frcL_eq t]
/-- Put in its place, from the front. -/
def insL {α : Type} [DecidableEq α] (lt : α → α → Bool) : List α → α → List α
  | [], n => [n]
  | a :: t, n => if lt n a then n :: a :: t else if a = n then a :: t else a :: insL lt t n
theorem insL_inc {α : Type} [DecidableEq α] [Inhabited α] {lt : α → α → Bool} (hO : STO lt) (n : α) : ∀ {l : List α}, IncG lt l → IncG lt (insL lt l n) ∧ ∀ x, x ∈ insL lt l n ↔ x ∈ l ∨ x = n
  | [], _ => ⟨List.pairwise_singleton _ _, fun x => by simp [insL]⟩
  | a :: t, h => by
    obtain ⟨h1, h2⟩ := List.pairwise_cons.1 h
    unfold insL
    cases hna : lt n a with
    | true =>
      simp only [if_true]
      refine ⟨List.pairwise_cons.2 ⟨fun x hx => ?_, h⟩, fun x => by simp only [List.mem_cons]; exact ⟨fun hh => hh.elim .inr .inl, fun hh => hh.elim .inr .inl⟩⟩
      rcases List.mem_cons.1 hx with hx | hx
      · rw [hx]; exact hna
      · exact hO.trans hna (h1 x hx)
    | false =>
      simp only [Bool.false_eq_true, if_false]
      by_cases han : a = n
      · rw [if_pos han]
        exact ⟨h, fun x => ⟨.inl, fun hh => by rcases hh with hh | hh; exact hh; rw [hh, ← han]; exact List.mem_cons_self⟩⟩
      · rw [if_neg han]
        obtain ⟨i1, i2⟩ := insL_inc hO n h2
        have hlt : lt a n = true := by
          cases hc : lt a n with
          | true => rfl
          | false => exact absurd (hO.tot hc hna) han
        refine ⟨List.pairwise_cons.2 ⟨fun x hx => ?_, i1⟩, fun x => ?_⟩
        · rcases (i2 x).1 hx with hx | hx
          · exact h1 x hx
          · rw [hx]; exact hlt
        · simp only [List.mem_cons, i2 x]
          constructor
          · rintro (h | h | h)
            · exact .inl (.inl h)
            · exact .inl (.inr h)
            · exact .inr h
          · rintro ((h | h) | h)
            · exact .inl h
            · exact .inr (.inl h)
            · exact .inr (.inr h)
theorem insL_eq {l : List (List C)} (h : FineF l) (n : List C) : insL ltS l n = putG ltS l n := by
  obtain ⟨a1, a2⟩ := insL_inc ltS_sto n h.1
  obtain ⟨b1, b2⟩ := putG_inc ltS_sto h.1 n
  exact incG_eq ltS_sto _ _ a1 b1 fun x => by rw [a2, b2]
def extL (s : List C) : List (List C) → List C → List (List C)
  | acc, [] => acc
  | acc, d :: t => if hasC s d.1 d.2 then extL s acc t else frcS (cornI (s ++ [d])) fun c => if isShape c then frcL (insL ltS acc c) fun acc' => extL s acc' t else extL s acc t
theorem extL_eq (s : List C) : ∀ (l : List C) {acc : List (List C)}, FineF acc → extL s acc l = l.foldl (extStep s) acc
  | [], acc, _ => rfl
  | d :: t, acc, h => by
    rw [List.foldl_cons]
    unfold extL
    cases h1 : hasC s d.1 d.2 with
    | true =>
      have he : extStep s acc d = acc := by unfold extStep; rw [h1]; rfl
      rw [he, if_pos rfl]
      exact extL_eq s t h
    | false =>
      rw [if_neg (by simp), frcS_eq]
      cases h2 : isShape (cornI (s ++ [d])) with
      | true =>
        have he : extStep s acc d = putG ltS acc (cornI (s ++ [d])) := by unfold extStep; rw [h1, h2]; rfl
        rw [he, if_pos rfl, frcL_eq, insL_eq h]
        exact extL_eq s t (h.put h2)
      | false =>
        have he : extStep s acc d = acc := by unfold extStep; rw [h1, h2]; rfl
        rw [he, if_neg (by simp)]
        exact extL_eq s t h
def putsF : List (List C) → List (List C) → List (List C)
  | [], acc => acc
  | a :: t, acc => frcL (insL ltS acc a) fun acc' => putsF t acc'
theorem putsF_eq : ∀ (l acc : List (List C)), FineF acc → (∀ x ∈ l, isShape x = true) → putsF l acc = l.foldl (putG ltS) acc
  | [], acc, _, _ => rfl
  | a :: t, acc, h, hl => by
    unfold putsF
    rw [frcL_eq, insL_eq h, putsF_eq t _ (h.put (hl a (by simp))) (fun x hx => hl x (by simp [hx]))]
    rfl
def growF : List (List C) → List (List C) → List (List C)
  | [], acc => acc
  | s :: t, acc => frcL (putsF (extL s [] (s.flatMap sidesV)) acc) fun acc' => growF t acc'
theorem extL_V (s : List C) : extL s [] (s.flatMap sidesV) = extV s := by
  rw [extL_eq s _ FineF.nil]
  unfold extV extTo
  rw [List.take_length]
theorem growF_eq : ∀ (F acc : List (List C)), FineF acc → growF F acc = F.foldl (fun acc s => (extV s).foldl (putG ltS) acc) acc
  | [], acc, _ => rfl
  | s :: t, acc, h => by
    unfold growF
    have hx : ∀ x ∈ extV s, isShape x = true := (extTo_fine sidesV s s.length).2
    rw [frcL_eq, extL_V, putsF_eq _ _ h hx, growF_eq t _ (h.puts hx)]
    rfl
def fixF : Nat → List (List C)
  | 0 => [[(0, 0)]]
  | k + 1 => frcL (fixF k) fun F => growF F []
theorem fixF_eq : ∀ k, fixF k = fixV k
  | 0 => rfl
  | k + 1 => by
    unfold fixF fixV
    rw [frcL_eq, fixF_eq k, growF_eq _ _ FineF.nil, growN, List.take_length]
end Go.Proofs.YtfnphchcgaebkaaGreat

/- All shapes of some cells: the reference. -/
namespace Go.Proofs.YtfnphchcgaebkaaGreat
open Go.RowKit
set_option linter.unusedVariables false
attribute [local go_sem ↓] Go.wp_at_zero Go.wp_at_succ

theorem fix_short (k : Nat) (h : k ≤ 3) : ∀ x ∈ fixV k, x.length ≠ 8 := by
  have hf : ∀ x ∈ fixF k, x.length ≠ 8 := by
    rcases (by omega : k = 0 ∨ k = 1 ∨ k = 2 ∨ k = 3) with rfl | rfl | rfl | rfl <;> decide +kernel
  rw [fixF_eq] at hf
  exact hf
theorem extR_fix {k : Nat} (h : k ≤ 3) {t : List C} (ht : t ∈ fixV k) : extR t = extV t := by
  unfold extR
  exact if_pos ⟨(fixV_fine k).2 t ht, fix_short k h t ht⟩
theorem own_some {w : World} {base e n c : Nat} {A : Option Addr} {xs : List Value} (h : w.ownsRow base e 1 (.slice A (n + 1) c) (n + 1) xs) : ∃ g, A = some ⟨g, 0, none⟩ := by
  rcases h.2 with ⟨hv, _⟩ | ⟨g', cap, cur, hv, _⟩
  · injection hv with _ h2 _; omega
  · injection hv with h1 _ _; exact ⟨g', h1⟩
set_option maxRecDepth 100000 in
set_option maxHeartbeats 6400000 in
theorem FixedShapes_s (n : Int) (w : World) : Calls Tryz.prog 48 #[.int .i64 n] w (RetFA w (fixA n)) := by
  have hini : (w.alloc (.cells #[] 24)).ownsRow w.heap.size 24 1 (.slice (some ⟨w.heap.size, 0, none⟩) 0 0) 0 [] := own_new w _ 1 0 #[] rfl (by simp [maxLen]) (Nat.le_refl _)
  have HI := Lib.hid (OwnF.none_ hini)
  clear hini
  by_cases h : 1 ≤ n ∧ n ≤ 5
  · obtain ⟨n, rfl⟩ : ∃ k : Nat, n = (k : Int) := ⟨n.toNat, by omega⟩
    have HV : Hid (fixA (n : Int) = fixV (n - 1)) := by show fixA _ = _; unfold fixA; rw [if_pos h]; simp
    have hn1 : 1 ≤ n := by omega
    have hn5 : n ≤ 5 := by omega
    have HB := Lib.hid h
    clear h
    go_enter Tryz.func48, Tryz.ntmps48
    go_wp2_with fail
    refine (l1In_t (n : Int) 1 5 _ HB.out.1 HB.out.2).mono ?_
    rintro e w1 ⟨rfl, hb1⟩
    have HI1 := Lib.hid (HI.out.below hb1)
    have hbw1 : Below w.heap.size w w1 := bel_trans (bel_alloc (Below.refl _ _) _) hb1
    have hz1 := hb1.size
    simp only [World.size_alloc] at hz1
    have HRN : Hid (Rd ((w1.alloc (.cells #[.int .i64 0, .int .i64 0] 40)).alloc (.cells #[.slice (some ⟨w1.heap.size, 0, none⟩) 1 1] 24)) (some ⟨w1.heap.size + 1, 0, none⟩) (vS [(some ⟨w1.heap.size, 0, none⟩, 1, 1)])) := by
      have := rd_newS (w1.alloc (.cells #[.int .i64 0, .int .i64 0] 40)) 24 (some ⟨w1.heap.size, 0, none⟩, 1, 1)
      exact Lib.hid (by simpa [hd] using this)
    go_wp2_with (at_builtin; go_must (refine app_F _ rfl _ _ rfl w.heap.size _ 0 0 [] rfl ((HI1.out.own.alloc _).alloc _) _ _ _ [(some ⟨w1.heap.size, 0, none⟩, 1, 1)] rfl HRN.out rfl (by omega) (by simp; omega) ?_); intro A3 c3 w3 ho3 hg3 _; have HO3 := Lib.hid ho3; have HG3 := Lib.hid hg3; clear ho3 hg3)
    obtain ⟨g3, hA3⟩ := own_some HO3.out
    subst hA3
    have hbw3 : Below w.heap.size w w3 := bel_app (bel_alloc (bel_alloc hbw1 _) _) HG3.out (fun g e => (own_lt HI1.out.own g e).1)
    have hini : OwnF w.heap.size w3 (some ⟨g3, 0, none⟩) 1 c3 [(some ⟨w1.heap.size, 0, none⟩, 1, 1)] (fixV 0) := by
      refine ⟨HO3.out, rfl, fun i x f h1 h2 => ?_⟩
      have hi : i = 0 := by have := (List.getElem?_eq_some_iff.1 h1).1; simp at this; exact this
      subst hi
      simp at h1
      simp [fixV] at h2
      subst h1 h2
      have hc : CRow ((w1.alloc (.cells #[.int .i64 0, .int .i64 0] 40)).alloc (.cells #[.slice (some ⟨w1.heap.size, 0, none⟩) 1 1] 24)) (some ⟨w1.heap.size, 0, none⟩, 1, 1) [(0, 0)] :=
        CRow.of_own (by simpa [vC] using (own_new w1 40 2 1 #[.int .i64 0, .int .i64 0] rfl (by simp [maxLen]) (base := w.heap.size) hbw1.size).alloc (.cells #[.slice (some ⟨w1.heap.size, 0, none⟩) 1 1] 24))
      exact hc.grown HG3.out (fun g e r => by simp [ob] at e r; omega)
    have HI3 := Lib.hid hini
    clear hini
    go_loopw [4, 3] (fun e4 e3 wr => ∃ (k m c g : Nat) (hs : List H), 1 ≤ k ∧ k ≤ n ∧ e4 = .int .i64 k ∧ e3 = .slice (some ⟨g, 0, none⟩) m c ∧ OwnF w.heap.size wr (some ⟨g, 0, none⟩) m c hs (fixV (k - 1)) ∧ Below w.heap.size w wr) (fun e4 _ _ => n - (intOf e4).toNat)
    case atStart => exact ⟨1, 1, _, _, _, Nat.le_refl _, hn1, rfl, rfl, HI3.out, hbw3⟩
    case round =>
      clear HRN HI HI1 HO3 HG3 HI3 hbw3 hbw1 hb1 hz1
      obtain ⟨k, m, c, gA, hs, hk1, hkn, rfl, rfl, hO, hb⟩ := hrel
      obtain ⟨v, hv⟩ : ∃ v, v = wr := ⟨_, rfl⟩
      subst hv
      by_cases hlt : k < n
      · have hkI : (k : Int) < (n : Int) := by omega
        obtain ⟨k0, hk0⟩ : ∃ k0, k = k0 + 1 := ⟨k - 1, by omega⟩
        have hkk : k - 1 = k0 := by omega
        rw [hkk] at hO
        have HNX : Hid (fixV (k + 1 - 1) = growN (fixV k0) m) := by show fixV (k + 1 - 1) = _; rw [Nat.add_sub_cancel, hk0, ← hO.flen]; rfl
        have hml : m ≤ 1048576 := by have h1 := fixV_len k0; have h2 := pow32 k0 (by omega); rw [hO.flen] at h1; omega
        have hsh := (fixV_fine k0).2
        have hxr := fun t => extR_fix (k := k0) (by omega) (t := t)
        obtain ⟨F, hF⟩ : ∃ F, fixV k0 = F := ⟨_, rfl⟩
        rw [hF] at hO hsh hxr
        rw [hF] at HNX
        have HO := Lib.hid hO
        have HFL := Lib.hid hO.flen
        have HSH := Lib.hid hsh
        have HXR := Lib.hid hxr
        have HKK := Lib.hid hk0
        have hbz := hb.size
        have HN0 : Hid (OwnF v.heap.size (v.alloc (.cells #[] 24)) (some ⟨v.heap.size, 0, none⟩) 0 0 [] []) := OwnF.none_ (own_new v 24 1 0 #[] rfl (by simp [maxLen]) (Nat.le_refl _))
        clear hO hF hsh hk0 hkk hxr
        go_wp2_with fail
        go_loopw [6, 5] (fun e6 e5 wr2 => ∃ (i q cq g : Nat) (hs2 : List H), i ≤ m ∧ e6 = .int .i64 i ∧ e5 = .slice (some ⟨g, 0, none⟩) q cq ∧ OwnF v.heap.size wr2 (some ⟨g, 0, none⟩) q cq hs2 (growN F i) ∧ Below v.heap.size v wr2) (fun e6 _ _ => m - (intOf e6).toNat)
        case atStart => exact ⟨0, 0, 0, _, [], Nat.zero_le _, rfl, rfl, HN0.out, bel_alloc (Below.refl _ _) _⟩
        case round =>
          clear HN0
          obtain ⟨i, q, cq, gD, hs2, hi, rfl, rfl, hO2, hb2⟩ := hrel
          by_cases him : i < m
          · have hi0 : (0 : Int) ≤ (i : Int) := by omega
            have hi1 : (i : Int) < (m : Int) := by omega
            have hRF := (HO.out.below hb2).rd
            obtain ⟨x, t, g, off, hsx, hfx, hAe, hg, d1, hrow⟩ := hRF.at_ him
            have htsh := HSH.out t (List.mem_of_getElem? hfx)
            have hxr := HXR.out t (List.mem_of_getElem? hfx)
            have hiF : i < F.length := by rw [HFL.out]; exact him
            have hgs := growN_succ F i hiF
            rw [show F[i] = t from by rw [List.getElem?_eq_getElem hiF] at hfx; injection hfx] at hgs
            have hgl := growN_len F HSH.out i (by omega)
            have hgf := growN_fine F i (by omega)
            obtain ⟨C1, m1, k1⟩ := x
            have hl1 : t.length = m1 := hrow.1
            have hm8 : m1 ≤ 1048576 := by have := (shape_len htsh).2; omega
            obtain ⟨G0, hG0⟩ : ∃ G0, growN F i = G0 := ⟨_, rfl⟩
            rw [hG0] at hgs hgl hgf hO2
            have HL1 := Lib.hid hl1
            have HT := Lib.hid htsh
            have HROW := Lib.hid hrow
            have HGS := Lib.hid hgs
            have HGF := Lib.hid hgf
            have HO2 := Lib.hid hO2
            have HXT := Lib.hid hxr
            have hql : q ≤ 32 * i := by rw [← hO2.flen]; exact hgl
            dsimp only at d1
            cases hAe
            simp only [Nat.zero_add] at d1
            clear hsx hfx hrow htsh hgs hgf hgl hO2 hG0 hl1 hRF hxr
            go_wp2_with fail
            refine (ExtensionsOf_s C1 m1 k1 t _ HROW.out.2.1 HL1.out hm8).mono ?_
            rw [HXT.out]
            rintro e w1 ⟨gE, me, ce, hsE, rfl, hoE, hb3⟩
            have hel : me ≤ 32 := by rw [← hoE.flen]; have h1 := extV_len t; have h2 := (shape_len HT.out).2; omega
            have HRE := Lib.hid hoE.rd
            have HFE := Lib.hid hoE.flen
            have HO3 := Lib.hid (HO2.out.below hb3)
            have hb23 : Below v.heap.size v w1 := bel_trans hb2 hb3
            clear hoE HO2 HROW hb2 hb3 d1
            go_wp2_with fail
            go_loopw [8, 5] (fun e8 e5 wr3 => ∃ (j q cq g : Nat) (hs2 : List H) (G : List (List C)), j ≤ me ∧ e8 = .int .i64 j ∧ e5 = .slice (some ⟨g, 0, none⟩) q cq ∧ G = ((extV t).take j).foldl (putG ltS) G0 ∧ OwnF v.heap.size wr3 (some ⟨g, 0, none⟩) q cq hs2 G ∧ FineF G ∧ G.length ≤ 32 * i + j ∧ RdF wr3 (some ⟨gE, 0, none⟩) me hsE (extV t) ∧ Below v.heap.size v wr3) (fun e8 _ _ => me - (intOf e8).toNat)
            case atStart => exact ⟨0, q, cq, gD, hs2, G0, Nat.zero_le _, rfl, rfl, rfl, HO3.out, HGF.out, by rw [HO3.out.flen]; omega, HRE.out, hb23⟩
            case round =>
              clear HO3 HRE hb23 hg
              obtain ⟨j, q, cq, gD, hs2, G, hj, rfl, rfl, hG, hO, hfi, hgl, hre, hb3⟩ := hrel
              by_cases hjm : j < me
              · have hj0 : (0 : Int) ≤ (j : Int) := by omega
                have hj1 : (j : Int) < (me : Int) := by omega
                obtain ⟨x, s2, g2, o2, hsx, hfx, hEe, hg2, d1, hrow⟩ := hre.at_ hjm
                have hs2sh := (extTo_fine sidesV t t.length).2 s2 (List.mem_of_getElem? hfx)
                have hjE : j < (extV t).length := by rw [HFE.out]; exact hjm
                have hstep : ((extV t).take (j + 1)).foldl (putG ltS) G0 = putG ltS G s2 := by
                  rw [List.take_succ_eq_append_getElem hjE, List.foldl_append, ← hG, show (extV t)[j] = s2 from by rw [List.getElem?_eq_getElem hjE] at hfx; injection hfx]
                  rfl
                obtain ⟨B, m2, k2⟩ := x
                have hl2 : s2.length = m2 := hrow.1
                have hm28 : m2 ≤ 8 := by have := (shape_len hs2sh).2; omega
                have hqG : q ≤ 32 * i + j := by rw [← hO.flen]; exact hgl
                have HQL := Lib.hid hO.flen
                have HO := Lib.hid hO
                have HFI := Lib.hid hfi
                have HRE := Lib.hid hre
                have HROW := Lib.hid hrow
                have HS2 := Lib.hid hs2sh
                have HST := Lib.hid hstep
                dsimp only at d1
                cases hEe
                simp only [Nat.zero_add] at d1
                clear hG hO hfi hre hsx hfx hrow hs2sh hstep hl2 hgl
                go_wp2_with fail
                refine (l3Put_s gD q cq hs2 G B m2 k2 s2 v.heap.size _ HO.out HROW.out (fun x hx => by have := HFI.out.len x hx; omega) (by omega) (by omega) hb3.size).mono ?_
                rw [← HST.out]
                rintro e w8 ⟨g3, q3, c3, hs3, rfl, hO8, hb8⟩
                have HO8 := Lib.hid hO8
                have hq8 : q3 ≤ 32 * i + (j + 1) := by
                  rw [← hO8.flen, HST.out]
                  have := putG_len (lt := ltS) G s2
                  have := HQL.out
                  omega
                have HFL8 : Hid ((((extV t).take (j + 1)).foldl (putG ltS) G0).length ≤ 32 * i + (j + 1)) := by show _ ≤ _; rw [hO8.flen]; exact hq8
                have HRE8 := Lib.hid (HRE.out.below hb8)
                have HF8 : Hid (FineF (((extV t).take (j + 1)).foldl (putG ltS) G0)) := by show FineF _; rw [HST.out]; exact HFI.out.put HS2.out
                have HB8 := Lib.hid (bel_trans hb3 hb8)
                clear hO8 hb8
                go_wp2_with fail
                exact ⟨⟨j + 1, q3, c3, g3, hs3, _, by omega, by go_num, rfl, rfl, HO8.out, HF8.out, HFL8.out, HRE8.out, HB8.out⟩, by simp [intOf]; omega⟩
              · obtain rfl : j = me := by omega
                have hGe : growN F (i + 1) = G := by rw [HGS.out, hG, List.take_of_length_le (by rw [HFE.out]; omega)]
                rw [← hGe] at hO
                have HO := Lib.hid hO
                have hj1 : ¬ (j : Int) < (j : Int) := by omega
                clear hO hG hGe hre
                go_wp2_with fail
                exact ⟨⟨i + 1, q, cq, gD, hs2, by omega, by go_num, rfl, HO.out, hb3⟩, by simp [intOf]; omega⟩
          · obtain rfl : i = m := by omega
            rw [← HNX.out] at hO2
            have HO2 := Lib.hid (hO2.mono hbz)
            have hi1 : ¬ (i : Int) < (i : Int) := by omega
            clear hO2
            go_wp2_with fail
            exact ⟨⟨k + 1, q, cq, gD, hs2, by omega, by omega, by go_num, rfl, HO2.out, bel_trans hb hb2⟩, by simp [intOf]; omega⟩
      · obtain rfl : k = n := by omega
        rw [← HV.out] at hO
        have HO := Lib.hid hO
        have hkI : ¬ (k : Int) < (k : Int) := by omega
        clear hO
        go_wp2_with fail
        go_ret
        exact ⟨gA, m, c, hs, rfl, HO.out, hb⟩
  · have HV : Hid (fixA n = []) := by show fixA n = _; unfold fixA; rw [if_neg h]
    have HB := Lib.hid h
    clear h
    go_enter Tryz.func48, Tryz.ntmps48
    go_wp2_with fail
    refine (l1In_f n 1 5 _ HB.out).mono ?_
    rintro e w1 ⟨rfl, hb1⟩
    have HI1 := Lib.hid (HI.out.below hb1)
    go_wp2_with fail
    go_ret
    exact ⟨w.heap.size, 0, 0, [], rfl, by rw [HV.out]; exact HI1.out, bel_trans (bel_alloc (Below.refl _ _) _) hb1⟩
end Go.Proofs.YtfnphchcgaebkaaGreat

/- Shapes with holes, snakes, counted among all shapes: both sides, and the laws. -/
namespace Go.Proofs.YtfnphchcgaebkaaGreat
open Go.RowKit
set_option linter.unusedVariables false
attribute [local go_sem ↓] Go.wp_at_zero Go.wp_at_succ

noncomputable def snkTo (F : List (List C)) (i : Nat) : Nat := (F.take i).countP isSnake
theorem snkTo_succ (F : List (List C)) {i : Nat} (h : i < F.length) : snkTo F (i + 1) = snkTo F i + (if isSnake F[i] then 1 else 0) := by
  unfold snkTo
  rw [List.take_succ_eq_append_getElem h, List.countP_append]
  simp [List.countP_singleton]
theorem snkTo_le (F : List (List C)) (i : Nat) : snkTo F i ≤ i := by
  unfold snkTo
  have h := List.countP_le_length (p := isSnake) (l := F.take i)
  rw [List.length_take] at h
  omega
noncomputable def snkV (n : Int) : Int := if fixA n = [] then -1 else ((snkTo (fixA n) (fixA n).length : Nat) : Int)
set_option maxRecDepth 100000 in
set_option maxHeartbeats 3200000 in
theorem CountSnakes_i (n : Int) (w : World) : Calls Tryz.prog 24 #[.int .i64 n] w (Ret w (.int .i64 (snkV n))) := by
  have hsh := fixA_shape2 n
  have hfl := fixA_len2 n
  obtain ⟨F, hF⟩ : ∃ F, fixA n = F := ⟨_, rfl⟩
  have hV : snkV n = if F = [] then -1 else ((snkTo F F.length : Nat) : Int) := by unfold snkV; rw [hF]
  rw [hF] at hsh hfl
  have HSH := Lib.hid hsh
  have HF := Lib.hid hF
  have HV := Lib.hid hV
  clear hsh hF hV
  go_enter Tryz.func24, Tryz.ntmps24
  go_wp2_with fail
  refine (FixedShapes_i n _).mono ?_
  rw [HF.out]
  rintro e w1 ⟨A0, m, c, hs, rfl, hO, hb1⟩
  have hml : F.length = m := hO.flen
  by_cases h0 : m = 0
  · subst h0
    have hF0 : F = [] := List.length_eq_zero_iff.1 hml
    have HW : Hid (snkV n = -1) := by show _ = _; rw [HV.out, if_pos hF0]
    clear hO hml hF0
    go_wp2_with fail
    go_ret
    exact ⟨by rw [HW.out]; rfl, hb1⟩
  · have hm0 : ((m : Int) == 0) = false := by rw [beq_eq_false_iff_ne]; omega
    have HW : Hid (snkV n = ((snkTo F F.length : Nat) : Int)) := by show _ = _; rw [HV.out, if_neg (fun e => h0 (by rw [← hml, e]; rfl))]
    have HRF := Lib.hid hO.rd
    have HFL := Lib.hid hml
    have hmb : m ≤ 1048576 := by omega
    clear hO hml hfl
    go_wp2_with fail
    go_loopw [14, 4] (fun e5 e3 wr => ∃ (i : Nat), i ≤ m ∧ e5 = .int .i64 i ∧ e3 = .int .i64 ((snkTo F i : Nat)) ∧ Below w1.heap.size w1 wr) (fun e5 _ _ => m - (intOf e5).toNat)
    case atStart => exact ⟨0, Nat.zero_le _, rfl, rfl, Below.refl _ _⟩
    case round =>
      obtain ⟨i, hi, rfl, rfl, hb⟩ := hrel
      by_cases hlt : i < m
      · have hi0 : (0 : Int) ≤ (i : Int) := by omega
        have hi1 : (i : Int) < (m : Int) := by omega
        obtain ⟨x, t, gA, off, hsx, hfx, hAe, hg, d1, hrow⟩ := (HRF.out.below hb).at_ hlt
        have htF := List.mem_of_getElem? hfx
        have htsh := HSH.out t htF
        have hiF : i < F.length := by rw [HFL.out]; exact hlt
        have hst : snkTo F (i + 1) = snkTo F i + (if isSnake t then 1 else 0) := by rw [snkTo_succ F hiF, show F[i] = t from by rw [List.getElem?_eq_getElem hiF] at hfx; injection hfx]
        have hsl := snkTo_le F i
        obtain ⟨q, hq⟩ : ∃ q, snkTo F i = q := ⟨_, rfl⟩
        rw [hq] at hst hsl ⊢
        clear hq
        obtain ⟨C1, m1, k1⟩ := x
        have hl1 : t.length = m1 := hrow.1
        have ht8 := (shape_len htsh).2
        rw [hl1] at ht8
        have HL1 := Lib.hid hl1
        have HT := Lib.hid htsh
        have HROW := Lib.hid hrow
        dsimp only at d1
        cases hAe
        (try simp only [Nat.zero_add] at d1)
        clear hsx hfx htF hrow hl1 htsh
        cases hsn : isSnake t with
        | true =>
          rw [hsn] at hst
          have HST := Lib.hid hst
          have HSN := Lib.hid hsn
          clear hst hsn
          go_wp2_with fail
          refine (IsSnake_i C1 m1 k1 t _ HROW.out.2.1 HL1.out (by omega)).mono ?_
          rw [HSN.out]
          rintro e w2 ⟨rfl, hb2⟩
          clear d1
          go_wp2_with fail
          exact ⟨⟨i + 1, by omega, by go_num, by rw [HST.out]; go_num, bel_trans hb hb2⟩, by simp [intOf]; omega⟩
        | false =>
          rw [hsn] at hst
          have HST := Lib.hid hst
          have HSN := Lib.hid hsn
          clear hst hsn
          go_wp2_with fail
          refine (IsSnake_i C1 m1 k1 t _ HROW.out.2.1 HL1.out (by omega)).mono ?_
          rw [HSN.out]
          rintro e w2 ⟨rfl, hb2⟩
          clear d1
          go_wp2_with fail
          exact ⟨⟨i + 1, by omega, by go_num, by rw [HST.out]; rfl, bel_trans hb hb2⟩, by simp [intOf]; omega⟩
      · obtain rfl : i = m := by omega
        have hi1 : ¬ (i : Int) < (i : Int) := by omega
        have HE : Hid (((snkTo F F.length : Nat) : Int) = ((snkTo F i : Nat) : Int)) := by show _ = _; rw [HFL.out]
        go_wp2_with fail
        go_ret
        exact ⟨by rw [HW.out, HE.out]; rfl, bel_trans hb1 hb⟩

set_option maxRecDepth 100000 in
set_option maxHeartbeats 3200000 in
theorem CountSnakes_s (n : Int) (w : World) : Calls Tryz.prog 25 #[.int .i64 n] w (Ret w (.int .i64 (snkV n))) := by
  have hsh := fixA_shape2 n
  have hfl := fixA_len2 n
  obtain ⟨F, hF⟩ : ∃ F, fixA n = F := ⟨_, rfl⟩
  have hV : snkV n = if F = [] then -1 else ((snkTo F F.length : Nat) : Int) := by unfold snkV; rw [hF]
  rw [hF] at hsh hfl
  have HSH := Lib.hid hsh
  have HF := Lib.hid hF
  have HV := Lib.hid hV
  clear hsh hF hV
  go_enter Tryz.func25, Tryz.ntmps25
  go_wp2_with fail
  refine (FixedShapes_s n _).mono ?_
  rw [HF.out]
  rintro e w1 ⟨gA0, m, c, hs, rfl, hO, hb1⟩
  have hml : F.length = m := hO.flen
  by_cases h0 : m = 0
  · subst h0
    have hF0 : F = [] := List.length_eq_zero_iff.1 hml
    have HW : Hid (snkV n = -1) := by show _ = _; rw [HV.out, if_pos hF0]
    clear hO hml hF0
    go_wp2_with fail
    go_ret
    exact ⟨by rw [HW.out]; rfl, hb1⟩
  · have hm0 : ((m : Int) == 0) = false := by rw [beq_eq_false_iff_ne]; omega
    have HW : Hid (snkV n = ((snkTo F F.length : Nat) : Int)) := by show _ = _; rw [HV.out, if_neg (fun e => h0 (by rw [← hml, e]; rfl))]
    have HRF := Lib.hid hO.rd
    have HFL := Lib.hid hml
    have hmb : m ≤ 1048576 := by omega
    clear hO hml hfl
    go_wp2_with fail
    go_loopw [5, 4] (fun e5 e3 wr => ∃ (i : Nat), i ≤ m ∧ e5 = .int .i64 i ∧ e3 = .int .i64 ((snkTo F i : Nat)) ∧ Below w1.heap.size w1 wr) (fun e5 _ _ => m - (intOf e5).toNat)
    case atStart => exact ⟨0, Nat.zero_le _, rfl, rfl, Below.refl _ _⟩
    case round =>
      obtain ⟨i, hi, rfl, rfl, hb⟩ := hrel
      by_cases hlt : i < m
      · have hi0 : (0 : Int) ≤ (i : Int) := by omega
        have hi1 : (i : Int) < (m : Int) := by omega
        obtain ⟨x, t, gA, off, hsx, hfx, hAe, hg, d1, hrow⟩ := (HRF.out.below hb).at_ hlt
        have htF := List.mem_of_getElem? hfx
        have htsh := HSH.out t htF
        have hiF : i < F.length := by rw [HFL.out]; exact hlt
        have hst : snkTo F (i + 1) = snkTo F i + (if isSnake t then 1 else 0) := by rw [snkTo_succ F hiF, show F[i] = t from by rw [List.getElem?_eq_getElem hiF] at hfx; injection hfx]
        have hsl := snkTo_le F i
        obtain ⟨q, hq⟩ : ∃ q, snkTo F i = q := ⟨_, rfl⟩
        rw [hq] at hst hsl ⊢
        clear hq
        obtain ⟨C1, m1, k1⟩ := x
        have hl1 : t.length = m1 := hrow.1
        have ht8 := (shape_len htsh).2
        rw [hl1] at ht8
        have HL1 := Lib.hid hl1
        have HT := Lib.hid htsh
        have HROW := Lib.hid hrow
        dsimp only at d1
        cases hAe
        (try simp only [Nat.zero_add] at d1)
        clear hsx hfx htF hrow hl1 htsh
        cases hsn : isSnake t with
        | true =>
          rw [hsn] at hst
          have HST := Lib.hid hst
          have HSN := Lib.hid hsn
          clear hst hsn
          go_wp2_with fail
          refine (IsSnake_s C1 m1 k1 t _ HROW.out.2.1 HL1.out (by omega)).mono ?_
          rw [HSN.out]
          rintro e w2 ⟨rfl, hb2⟩
          clear d1
          go_wp2_with fail
          exact ⟨⟨i + 1, by omega, by go_num, by rw [HST.out]; go_num, bel_trans hb hb2⟩, by simp [intOf]; omega⟩
        | false =>
          rw [hsn] at hst
          have HST := Lib.hid hst
          have HSN := Lib.hid hsn
          clear hst hsn
          go_wp2_with fail
          refine (IsSnake_s C1 m1 k1 t _ HROW.out.2.1 HL1.out (by omega)).mono ?_
          rw [HSN.out]
          rintro e w2 ⟨rfl, hb2⟩
          clear d1
          go_wp2_with fail
          exact ⟨⟨i + 1, by omega, by go_num, by rw [HST.out]; rfl, bel_trans hb hb2⟩, by simp [intOf]; omega⟩
      · obtain rfl : i = m := by omega
        have hi1 : ¬ (i : Int) < (i : Int) := by omega
        have HE : Hid (((snkTo F F.length : Nat) : Int) = ((snkTo F i : Nat) : Int)) := by show _ = _; rw [HFL.out]
        go_wp2_with fail
        go_ret
        exact ⟨by rw [HW.out, HE.out]; rfl, bel_trans hb1 hb⟩

end Go.Proofs.YtfnphchcgaebkaaGreat

/- What the laws on drawn values share: bytes opened, sizes, lists compared. -/
namespace Go.Proofs.YtfnphchcgaebkaaGreat
open Go.ChangeShapes Go.WideShapes Go.ChangeAt Go.RowKit
set_option linter.unusedVariables false
attribute [local go_sem ↓] Go.wp_at_zero Go.wp_at_succ
section
variable {H : Type} {enc : TypeId × Value → H}
theorem cellsB : Tryz.prog.cellsOf 5 = 1 := by kernel_rfl
set_option maxRecDepth 100000 in
theorem openB {W : World} {r : Reach} {b0 : Nat} {t : TypeId} (ht : Tryz.prog.underlying t = some (.slice 5)) {base : Nat} {spare : Nat → Bool} {held : Bool} {v : Value} {d : DataW H} {p : List MemPlace} (hv : Value.okWide Tryz.prog W r b0 t v) (h : DataW.Trod enc Tryz.prog W base spare held t v d p) :
    ∃ A n c xs, v = .slice A n c ∧ Rd W A (vB xs) ∧ xs.length = n ∧ n ≤ maxLen := by
  obtain ⟨a0, len, cap, rfl⟩ := okWide_slice ht hv
  obtain ⟨fuel, hf⟩ := h
  rcases open_ints ht Tryz.underlying5 cellsB hf with ⟨hcs, hx⟩ | ⟨a, len', cap', zs, hcs, _, hl, hm, hz, hx, hcell, hwz⟩
  · simp [Value.cells] at hcs
    obtain ⟨rfl, rfl, rfl⟩ := hcs
    exact ⟨none, 0, 0, [], rfl, .inl rfl, rfl, Nat.zero_le _⟩
  · simp [Value.cells] at hcs
    obtain ⟨rfl, rfl, rfl⟩ := hcs
    have hzl : len ≤ zs.length := by rw [hz]; split <;> omega
    have hrng : ∀ z ∈ zs, 0 ≤ z ∧ z < 256 := fun z hz2 => by
      have := hwz z hz2
      simp [Lit.wf, IntKind.min, IntKind.max, IntKind.bits, IntKind.signed] at this
      omega
    refine ⟨_, _, _, (zs.take len).map (fun z => UInt8.ofNat z.toNat), rfl, ?_, by rw [List.length_map, List.length_take]; omega, by omega⟩
    by_cases h0 : 0 < zs.length
    · obtain ⟨ab, ao, spot⟩ := a
      have hspot : spot = none := by simpa [Addr.add] using World.cell?_spot (hcell 0 h0)
      subst hspot
      refine .inr ⟨ab, ao, rfl, fun j u hu => ?_⟩
      simp only [vB, List.getElem?_map, Option.map_eq_some_iff] at hu
      obtain ⟨x, ⟨z, hz1, rfl⟩, rfl⟩ := hu
      have hjl : j < len := by
        rcases Nat.lt_or_ge j len with h | h
        · exact h
        · rw [List.getElem?_eq_none (by rw [List.length_take]; omega)] at hz1; cases hz1
      rw [List.getElem?_take_of_lt hjl] at hz1
      have h3 := hcell j (by omega)
      have h4 := hrng z (List.mem_of_getElem? hz1)
      rw [show (⟨ab, ao + j, none⟩ : Addr) = (⟨ab, ao, none⟩ : Addr).add j from by simp [Addr.add], h3, List.getD_eq_getElem?_getD, hz1]
      have e : ((UInt8.ofNat z.toNat).toNat : Int) = z := by
        rw [UInt8.toNat_ofNat_of_lt' (by show z.toNat < 256; omega)]
        omega
      rw [e]
      rfl
    · left
      rw [List.eq_nil_of_length_eq_zero (by omega : zs.length = 0)]
      simp [vB]
end
theorem big_l (A : Option Addr) (n c : Nat) (w : World) : Calls Tryz.prog 4 #[.slice A n c] w (Ret w (.bool (decide ((n : Int) > 1048576)))) := by
  go_enter Tryz.func4, Tryz.ntmps4
  go_wp2_with fail
  go_ret
  exact ⟨rfl, Below.refl _ _⟩
end Go.Proofs.YtfnphchcgaebkaaGreat
