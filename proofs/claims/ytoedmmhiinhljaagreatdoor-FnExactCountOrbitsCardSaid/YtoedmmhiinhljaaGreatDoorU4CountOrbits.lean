/- Texts of this claim, one behind the other: part 4. -/
import Derived.Test.YtoedmmhiinhljaaGreatDoorU3CountOrbits
import Derived.Outline
import Derived.WalkLawsBesides
import Derived.WalkSpells
import Derived.BigQuiet
import Derived.Deep.QuietTactic
import Derived.Deep.RegionHeld3
import Derived.Deep.RegionWith
import Derived.Deep.DeepCutAuto
import Derived.Deep.CutBlock
import Derived.Deep.DrawnRows
import Derived.Test.YtoedmmhiinhljaaGreatDoorProg
import Derived.Deep.RegionLaw
/- Packings, tilings, coverings and scattered cells bound each other: plain. No program is in sight. -/
namespace Go.Proofs.YtoedmmhiinhljaaGreatDoor
open Go.RowKit
set_option linter.unusedVariables false
theorem countP_or_le {α : Type} (p q : α → Bool) : ∀ l : List α, l.countP (fun x => p x || q x) ≤ l.countP p + l.countP q
  | [] => by simp
  | x :: t => by
    have := countP_or_le p q t
    simp only [List.countP_cons]
    cases p x <;> cases q x <;> simp <;> omega
theorem pop_or_le (a b : Nat) : pop (a ||| b) ≤ pop a + pop b := by
  have h := countP_or_le (fun i => a.testBit i) (fun i => b.testBit i) (List.range 64)
  unfold pop
  simpa [Nat.testBit_or] using h
theorem pop_mono {a b : Nat} (h : ∀ i, a.testBit i = true → b.testBit i = true) : pop a ≤ pop b := List.countP_mono_left fun i _ => h i
theorem and_orL (y a b : Nat) : y &&& (a ||| b) = (y &&& a) ||| (y &&& b) := by
  apply Nat.eq_of_testBit_eq
  intro i
  simp only [Nat.testBit_and, Nat.testBit_or]
  cases y.testBit i <;> simp
theorem cov_or {y s : Nat} {l : List Int} (h : ∀ m ∈ l, pop (y &&& m.toNat) ≤ s) : ∀ k, k ≤ l.length → pop (y &&& orL l k) ≤ k * s
  | 0, _ => by simp [orL, pop]
  | k + 1, hk => by
    rw [orL_succ l (by omega), and_orL]
    have h1 := pop_or_le (y &&& orL l k) (y &&& (l[k]'(by omega)).toNat)
    have h2 := cov_or h k (by omega)
    have h3 := h _ (List.getElem_mem (by omega : k < l.length))
    rw [Nat.succ_mul]
    omega
/-- What some masks cover is no more than they have cells. -/
theorem cover_up {y s : Nat} {l : List Int} (h : ∀ m ∈ l, pop (y &&& m.toNat) ≤ s) (hc : ∀ b, y.testBit b = true → ∃ m ∈ l, m.toNat.testBit b = true) : pop y ≤ l.length * s := by
  have h1 := cov_or h l.length (Nat.le_refl _)
  rwa [show y &&& orL l l.length = y from ?_] at h1
  apply Nat.eq_of_testBit_eq
  intro b
  rw [Nat.testBit_and]
  cases hb : y.testBit b with
  | false => rfl
  | true =>
    have := (orL_bit l b l.length (Nat.le_refl _)).2 (by rw [List.take_length]; exact hc b hb)
    rw [this]
    rfl
/-- The most masks without common cells that go on from some cells. -/
def mostL : List Int → Nat → Nat
  | [], _ => 0
  | m :: t, used => if m.toNat &&& used = 0 then max (mostL t used) (1 + mostL t (used ||| m.toNat)) else mostL t used
theorem most_no {m : Int} {t : List Int} {used : Nat} (h : ¬ m.toNat &&& used = 0) : mostL (m :: t) used = mostL t used := by
  show (if _ then _ else _) = _
  rw [if_neg h]
theorem most_yes {m : Int} {t : List Int} {used : Nat} (h : m.toNat &&& used = 0) : mostL (m :: t) used = max (mostL t used) (1 + mostL t (used ||| m.toNat)) := by
  show (if _ then _ else _) = _
  rw [if_pos h]
theorem most_len : ∀ (L : List Int) (used : Nat), mostL L used ≤ L.length
  | [], _ => Nat.le_refl _
  | m :: t, used => by
    have h1 := most_len t used
    have h2 := most_len t (used ||| m.toNat)
    rw [List.length_cons]
    by_cases h : m.toNat &&& used = 0
    · rw [most_yes h]; omega
    · rw [most_no h]; omega
theorem most_up {s M : Nat} : ∀ (L : List Int) (used : Nat), (∀ m ∈ L, pop m.toNat = s ∧ ∀ b, m.toNat.testBit b = true → M.testBit b = true) → (∀ b, used.testBit b = true → M.testBit b = true) → mostL L used * s + pop used ≤ pop M
  | [], used, _, hu => by
    show 0 * s + pop used ≤ _
    rw [Nat.zero_mul, Nat.zero_add]
    exact pop_mono hu
  | m :: t, used, h, hu => by
    have h1 := most_up t used (fun x hx => h x (List.mem_cons_of_mem _ hx)) hu
    obtain ⟨hs, hb⟩ := h m (List.mem_cons_self ..)
    by_cases hd : m.toNat &&& used = 0
    · have h2 := most_up t (used ||| m.toNat) (fun x hx => h x (List.mem_cons_of_mem _ hx)) (fun b hbt => by
        rw [Nat.testBit_or, Bool.or_eq_true] at hbt
        rcases hbt with hbt | hbt
        · exact hu b hbt
        · exact hb b hbt)
      rw [pop_or (by rw [Nat.and_comm]; exact hd), hs] at h2
      rw [most_yes hd]
      rcases Nat.le_total (mostL t used) (1 + mostL t (used ||| m.toNat)) with hc | hc
      · rw [Nat.max_eq_right hc, Nat.add_mul, Nat.one_mul]
        omega
      · rw [Nat.max_eq_left hc]
        exact h1
    · rw [most_no hd]
      exact h1
theorem and_or_zero {a b c : Nat} (h1 : a &&& b = 0) (h2 : a &&& c = 0) : a &&& (b ||| c) = 0 := by rw [and_orL, h1, h2]; rfl
theorem most_low (q : Int → Bool) : ∀ (L : List Int) (used : Nat), (∀ m ∈ L, q m = true → m.toNat &&& used = 0) → (L.Pairwise fun a b => q a = true → q b = true → b.toNat &&& a.toNat = 0) → L.countP q ≤ mostL L used
  | [], _, _, _ => Nat.le_refl _
  | m :: t, used, h, hp => by
    rw [List.pairwise_cons] at hp
    have hge : mostL t used ≤ mostL (m :: t) used := by
      by_cases hd : m.toNat &&& used = 0
      · rw [most_yes hd]; omega
      · rw [most_no hd]; exact Nat.le_refl _
    rw [List.countP_cons]
    cases hq : q m with
    | false =>
      have := most_low q t used (fun x hx => h x (List.mem_cons_of_mem _ hx)) hp.2
      simp only [Bool.false_eq_true, if_false]
      omega
    | true =>
      have hd := h m (List.mem_cons_self ..) hq
      have := most_low q t (used ||| m.toNat) (fun x hx hqx => and_or_zero (h x (List.mem_cons_of_mem _ hx) hqx) (hp.1 x hx hq hqx)) hp.2
      rw [most_yes hd]
      simp only [if_true]
      omega
theorem inM_bitO {m free b : Nat} (h : inM m free = true) (hb : m.testBit b = true) : free.testBit b = true := by
  unfold inM at h
  rw [beq_iff_eq] at h
  rw [← h, Nat.testBit_and, Bool.and_eq_true] at hb
  exact hb.2
theorem disj_sub {a m free : Nat} (ha : inM a (free - m) = true) (hm : inM m free = true) (hf : free < 2 ^ 62) : a &&& m = 0 := by
  apply Nat.eq_of_testBit_eq
  intro b
  rw [Nat.testBit_and, Nat.zero_testBit]
  cases hb : a.testBit b with
  | false => rfl
  | true =>
    have h1 := inM_bitO ha hb
    by_cases h62 : b < 62
    · rw [sub_bit hm hf b h62, Bool.and_eq_true, Bool.not_eq_true'] at h1
      rw [h1.2]
      rfl
    · rw [Nat.testBit_lt_two_pow (Nat.lt_of_lt_of_le (by omega : free - m < 2 ^ 62) (Nat.pow_le_pow_right (by decide) (by omega)))] at h1
      cases h1
theorem til_spec {L : List Int} : ∀ {n free : Nat} {x : List Int}, free < 2 ^ 62 → x ∈ tilF L n free → (∀ m ∈ x, m ∈ L ∧ inM m.toNat free = true) ∧ (x.Pairwise fun a b => b.toNat &&& a.toNat = 0) ∧ ∀ b, free.testBit b = true → ∃ m ∈ x, m.toNat.testBit b = true
  | n, free, [], hf, h => by
    refine ⟨by simp, List.Pairwise.nil, fun b hb => ?_⟩
    by_cases h0 : free = 0
    · subst h0; simp at hb
    · cases n with
      | zero => simp [tilF, h0] at h
      | succ n =>
        rw [tilF_succ L n h0, List.mem_flatMap] at h
        obtain ⟨m, _, h2⟩ := h
        split at h2
        · simp at h2
        · cases h2
  | 0, free, m :: y, hf, h => by
    by_cases h0 : free = 0
    · simp [tilF, h0] at h
    · simp [tilF, h0] at h
  | n + 1, free, m :: y, hf, h => by
    by_cases h0 : free = 0
    · subst h0; rw [tilF_zero] at h; simp at h
    · rw [tilF_succ L n h0, List.mem_flatMap] at h
      obtain ⟨m', hm, h2⟩ := h
      split at h2
      · next hi =>
        obtain ⟨y', hy, he⟩ := List.mem_map.1 h2
        injection he with e1 e2
        subst e1 e2
        obtain ⟨k1, k2, k3⟩ := til_spec (by omega : free - m'.toNat < 2 ^ 62) hy
        refine ⟨fun z hz => ?_, List.pairwise_cons.2 ⟨fun z hz => disj_sub (k1 z hz).2 hi hf, k2⟩, fun b hb => ?_⟩
        · rcases List.mem_cons.1 hz with rfl | hz
          · exact ⟨(List.mem_filter.1 hm).1, hi⟩
          · exact ⟨(k1 z hz).1, sub_in hi hf (k1 z hz).2⟩
        · by_cases hmb : m'.toNat.testBit b = true
          · exact ⟨m', List.mem_cons_self .., hmb⟩
          · by_cases h62 : b < 62
            · obtain ⟨z, hz, hzb⟩ := k3 b (by rw [sub_bit hi hf b h62, hb]; simp [hmb])
              exact ⟨z, List.mem_cons_of_mem _ hz, hzb⟩
            · rw [Nat.testBit_lt_two_pow (Nat.lt_of_lt_of_le hf (Nat.pow_le_pow_right (by decide) (by omega)))] at hb
              cases hb
      · cases h2
theorem til_cov {L : List Int} : ∀ {n free : Nat} {x : List Int}, x ∈ tilF L n free → ∃ p, covP L x.length free = some p
  | n, free, [], h => by
    by_cases h0 : free = 0
    · subst h0; exact ⟨[], covP_zero L _⟩
    · cases n with
      | zero => simp [tilF, h0] at h
      | succ n =>
        rw [tilF_succ L n h0, List.mem_flatMap] at h
        obtain ⟨m, _, h2⟩ := h
        split at h2
        · simp at h2
        · cases h2
  | 0, free, m :: y, h => by
    by_cases h0 : free = 0
    · simp [tilF, h0] at h
    · simp [tilF, h0] at h
  | n + 1, free, m :: y, h => by
    by_cases h0 : free = 0
    · subst h0; rw [tilF_zero] at h; simp at h
    · rw [tilF_succ L n h0, List.mem_flatMap] at h
      obtain ⟨m', hm, h2⟩ := h
      split at h2
      · next hi =>
        obtain ⟨y', hy, he⟩ := List.mem_map.1 h2
        injection he with e1 e2
        subst e1 e2
        obtain ⟨p, hp⟩ := til_cov hy
        rw [List.length_cons, covP_succ L _ h0]
        cases hc : (bitL (lowN free) L).findSome? (fun m => (covP L y'.length (free - (free &&& m.toNat))).map (m :: ·)) with
        | some r => exact ⟨r, rfl⟩
        | none =>
          exfalso
          rw [List.findSome?_eq_none_iff] at hc
          have h3 := hc m' hm
          have h4 : free &&& m'.toNat = m'.toNat := by
            unfold inM at hi
            rw [beq_iff_eq] at hi
            rw [Nat.and_comm]
            exact hi
          rw [h4, hp] at h3
          cases h3
      · cases h2
theorem fewTo_min {L : List Int} {M : Nat} : ∀ {n k : Nat} {p : List Int}, covP L k M = some p → k < n → ∃ p0 j, j ≤ k ∧ fewTo L M n = some p0 ∧ covP L j M = some p0
  | 0, k, p, _, h => by omega
  | n + 1, k, p, hp, h => by
    cases hq : fewTo L M n with
    | some q =>
      by_cases hk : k < n
      · obtain ⟨p0, j, h1, h2, h3⟩ := fewTo_min hp hk
        exact ⟨p0, j, h1, by unfold fewTo; rw [h2], h3⟩
      · obtain rfl : k = n := by omega
        have key : ∀ i, fewTo L M i = some q → ∃ j, j < i ∧ covP L j M = some q := by
          intro i
          induction i with
          | zero => intro h; cases h
          | succ i ih =>
            intro h
            unfold fewTo at h
            cases hr : fewTo L M i with
            | some r =>
              rw [hr] at h
              injection h with h
              subst h
              obtain ⟨j, h1, h2⟩ := ih hr
              exact ⟨j, by omega, h2⟩
            | none => rw [hr] at h; exact ⟨i, by omega, h⟩
        obtain ⟨j, h1, h2⟩ := key k hq
        exact ⟨q, j, by omega, by unfold fewTo; rw [hq], h2⟩
    | none =>
      by_cases hk : k < n
      · obtain ⟨p0, j, h1, h2, h3⟩ := fewTo_min hp hk
        rw [hq] at h2
        cases h2
      · obtain rfl : k = n := by omega
        exact ⟨p, k, Nat.le_refl _, by unfold fewTo; rw [hq]; exact hp, hp⟩
theorem fewTo_cov {L : List Int} {M : Nat} : ∀ {n : Nat} {p : List Int}, fewTo L M n = some p → ∃ j, j < n ∧ covP L j M = some p
  | 0, p, h => by cases h
  | n + 1, p, h => by
    unfold fewTo at h
    cases hr : fewTo L M n with
    | some r =>
      rw [hr] at h
      injection h with h
      subst h
      obtain ⟨j, h1, h2⟩ := fewTo_cov hr
      exact ⟨j, by omega, h2⟩
    | none => rw [hr] at h; exact ⟨n, by omega, h⟩
theorem ord_mem (p : List Int) (x : Int) : x ∈ ord p ↔ x ∈ p := by rw [← putP_eq]; exact (putP_inc p).2 x
theorem ord_inc (p : List Int) : Inc (ord p) := by rw [← putP_eq]; exact (putP_inc p).1
theorem pw_all {R : Int → Int → Prop} (hs : ∀ a b, R a b → R b a) : ∀ {l : List Int}, l.Pairwise R → ∀ a ∈ l, ∀ b ∈ l, a ≠ b → R a b
  | [], _, a, ha, _, _, _ => by cases ha
  | c :: t, h, a, ha, b, hb, hne => by
    rw [List.pairwise_cons] at h
    rcases List.mem_cons.1 ha with h1 | h1
    · rcases List.mem_cons.1 hb with h2 | h2
      · exact absurd (h1.trans h2.symm) hne
      · rw [h1]; exact h.1 b h2
    · rcases List.mem_cons.1 hb with h2 | h2
      · rw [h2]; exact hs _ _ (h.1 a h1)
      · exact pw_all hs h.2 a h1 b h2 hne
theorem smallV_parts {W : Int} {rows : List Int} {P : List (List C)} (h : smallV W rows P = true) : isReg W rows = true ∧ pcs P = true ∧ areaV W rows ≤ 12 := by
  unfold smallV at h
  simp only [Bool.and_eq_true, decide_eq_true_eq] at h
  exact ⟨h.1.1, h.1.2, h.2⟩
theorem fewc_parts {W : Int} {rows : List Int} {P : List (List C)} {p : List Int} (h : fewcV W rows P = some p) : smallV W rows P = true ∧ ∃ j, j < (areaV W rows).toNat + 1 ∧ covP (allV W rows P) j (maskV W rows) = some p := by
  unfold fewcV at h
  split at h
  · next hs => exact ⟨hs, fewTo_cov h⟩
  · cases h
theorem pcs_shp {P : List (List C)} (h : pcs P = true) : ∀ f ∈ P, isShape f = true := by
  unfold pcs at h
  simp only [Bool.and_eq_true, List.all_eq_true] at h
  exact h.1
/-- The placements of one piece have its number of cells. -/
theorem one_pop {W : Int} {rows : List Int} {f : List C} (hv : isReg W rows = true) (hs : isShape f = true) : ∀ m ∈ allV W rows [f], pop m.toNat = f.length := fun m hm => by
  unfold allV at hm
  rw [putAll_mem] at hm
  have hm2 : m ∈ plV W rows f := by simpa [catTo] using hm
  exact plV_pop hv hs hm2
theorem and_in {M m : Nat} (h : ∀ b, m.testBit b = true → M.testBit b = true) : M &&& m = m := by
  apply Nat.eq_of_testBit_eq
  intro b
  rw [Nat.testBit_and]
  cases hb : m.testBit b with
  | false => simp
  | true => rw [h b hb]; rfl
/-- One piece: the largest packing against the fewest covering. -/
theorem ov_one {W : Int} {rows : List Int} {g : List C} {l : List Int} (hl1 : 1 ≤ g.length) (h : fewcV W rows [g] = some l) :
    mostL (allV W rows [g]) 0 ≤ (ord l).length ∧ (tilV (allV W rows [g]) (maskV W rows) ≠ [] → mostL (allV W rows [g]) 0 = (ord l).length) := by
  obtain ⟨hsm, j, hj, hc⟩ := fewc_parts h
  obtain ⟨hv, hpc, ha⟩ := smallV_parts hsm
  have hs : isShape g = true := (pcs_shp hpc) g (List.mem_singleton.2 rfl)
  have hpop := one_pop hv hs
  have hin := allV_in (P := [g]) hv
  have hinc := allV_inc W rows [g]
  have hM62 := mask62 W rows
  have harea : areaV W rows = ((pop (maskV W rows) : Nat) : Int) := by unfold areaV; rw [if_pos hv, (cells_bits hv).2]
  unfold fewcV at h
  rw [if_pos hsm] at h
  rw [harea, Int.toNat_natCast] at h
  obtain ⟨L, hL⟩ : ∃ L, allV W rows [g] = L := ⟨_, rfl⟩
  obtain ⟨M, hM⟩ : ∃ M, maskV W rows = M := ⟨_, rfl⟩
  rw [hL, hM] at h hc
  rw [hL] at hpop hin hinc
  rw [hM] at hin hM62
  rw [hL, hM]
  obtain ⟨s, hsl⟩ : ∃ s, g.length = s := ⟨_, rfl⟩
  rw [hsl] at hpop hl1
  obtain ⟨c1, c2, c3⟩ := covP_spec hM62 hc
  have h1 : mostL L 0 * s ≤ pop M := by
    have := most_up L 0 (fun m hm => ⟨hpop m hm, hin m hm⟩) (fun b hb => by simp at hb)
    omega
  have hcv : ∀ m ∈ L, pop (M &&& m.toNat) ≤ s := fun m hm => by rw [and_in (hin m hm), hpop m hm]; exact Nat.le_refl _
  have h2 : pop M ≤ (ord l).length * s := cover_up (fun m hm => hcv m (c2 m ((ord_mem l m).1 hm))) fun b hb => by
    obtain ⟨m, hm, hmb⟩ := c3 b hb
    exact ⟨m, (ord_mem l m).2 hm, hmb⟩
  refine ⟨Nat.le_of_mul_le_mul_right (Nat.le_trans h1 h2) hl1, fun hne => ?_⟩
  obtain ⟨x, hx⟩ := List.exists_mem_of_ne_nil _ hne
  obtain ⟨t1, t2, t3⟩ := til_spec hM62 hx
  have hcount : pop M ≤ mostL L 0 * s := by
    have hlow := most_low (fun m => x.contains m) L 0 (fun m _ _ => Nat.and_zero _) (by
      refine hinc.imp ?_
      intro a b hab ha hb
      have ha2 : a ∈ x := by simpa using ha
      have hb2 : b ∈ x := by simpa using hb
      exact pw_all (R := fun a b => b.toNat &&& a.toNat = 0) (fun a b h => by rw [Nat.and_comm]; exact h) t2 a ha2 b hb2 (by omega))
    rw [List.countP_eq_length_filter] at hlow
    have hup : pop M ≤ (L.filter fun m => x.contains m).length * s := cover_up (fun m hm => hcv m (List.mem_filter.1 hm).1) fun b hb => by
      obtain ⟨m, hm, hmb⟩ := t3 b hb
      exact ⟨m, List.mem_filter.2 ⟨(t1 m hm).1, by simpa using hm⟩, hmb⟩
    exact Nat.le_trans hup (Nat.mul_le_mul_right s hlow)
  have hxs : x.length * s ≤ pop M := by
    have key : ∀ (y : List Int) (u : Nat), (∀ m ∈ y, pop m.toNat = s ∧ ∀ b, m.toNat.testBit b = true → M.testBit b = true) → (∀ b, u.testBit b = true → M.testBit b = true) → (∀ m ∈ y, m.toNat &&& u = 0) → (y.Pairwise fun a b => b.toNat &&& a.toNat = 0) → y.length * s + pop u ≤ pop M := by
      intro y
      induction y with
      | nil => intro u _ hu _ _; rw [List.length_nil, Nat.zero_mul, Nat.zero_add]; exact pop_mono hu
      | cons m t ih =>
        intro u hy hu hd hp
        rw [List.pairwise_cons] at hp
        obtain ⟨k1, k2⟩ := hy m (List.mem_cons_self ..)
        have hmu := hd m (List.mem_cons_self ..)
        have := ih (u ||| m.toNat) (fun z hz => hy z (List.mem_cons_of_mem _ hz)) (fun b hb => by
          rw [Nat.testBit_or, Bool.or_eq_true] at hb
          rcases hb with hb | hb
          · exact hu b hb
          · exact k2 b hb) (fun z hz => and_or_zero (hd z (List.mem_cons_of_mem _ hz)) (hp.1 z hz)) hp.2
        rw [pop_or (by rw [Nat.and_comm]; exact hmu), k1] at this
        rw [List.length_cons, Nat.succ_mul]
        omega
    have := key x 0 (fun m hm => ⟨hpop m (t1 m hm).1, hin m (t1 m hm).1⟩) (fun b hb => by simp at hb) (fun m _ => Nat.and_zero _) t2
    omega
  obtain ⟨q, hq⟩ := til_cov hx
  have hxl : x.length < pop M + 1 := by
    have : x.length * 1 ≤ x.length * s := Nat.mul_le_mul_left _ hl1
    omega
  obtain ⟨p0, j0, g1, g2, g3⟩ := fewTo_min hq hxl
  rw [h] at g2
  injection g2 with g2
  subst g2
  have hlx : (ord l).length ≤ x.length := by
    have h5 := (covP_spec hM62 g3).1
    have h6 := ord_len l
    omega
  have hk : mostL L 0 * s = pop M := by omega
  have hx2 : x.length ≤ mostL L 0 := Nat.le_of_mul_le_mul_right (by omega) hl1
  have h7 := Nat.le_of_mul_le_mul_right (Nat.le_trans h1 h2) hl1
  omega
theorem sub_bits {mask : Nat} : ∀ k x, x ∈ subTo mask k → ∀ b, x.testBit b = true → mask.testBit b = true
  | 0, x, h, b, hb => by simp [subTo, bitsL, subL] at h; subst h; simp at hb
  | k + 1, x, h, b, hb => by
    rw [subTo_succ] at h
    split at h
    · next hk =>
      rcases List.mem_append.1 h with h1 | h1
      · exact sub_bits k x h1 b hb
      · obtain ⟨y, hy, rfl⟩ := List.mem_map.1 h1
        rw [Nat.testBit_or, Bool.or_eq_true] at hb
        rcases hb with hb | hb
        · exact sub_bits k y hy b hb
        · rw [Nat.testBit_two_pow] at hb
          simp only [decide_eq_true_eq] at hb
          subst hb
          exact hk
    · exact sub_bits k x h b hb
theorem lsTo_scat (L : List Int) (M : List Nat) : ∀ i, i ≤ M.length → scatL L (lsTo L M i) = true ∧ (lsTo L M i = 0 ∨ lsTo L M i ∈ M)
  | 0, _ => ⟨by simp [scatL, lsTo, pop], .inl rfl⟩
  | i + 1, h => by
    obtain ⟨h1, h2⟩ := lsTo_scat L M i (by omega)
    rw [lsTo_succ L M (by omega)]
    unfold lsStep
    split
    · next hc =>
      simp only [Bool.and_eq_true] at hc
      exact ⟨hc.2, .inr (List.getElem_mem _)⟩
    · exact ⟨h1, h2⟩
/-- The most scattered cells are scattered cells of the region. -/
theorem lsV_spec {W : Int} {rows : List Int} {P : List (List C)} : scatL (allV W rows P) (lsV W rows P) = true ∧ ∀ b, (lsV W rows P).testBit b = true → (maskV W rows).testBit b = true := by
  unfold lsV
  split
  · obtain ⟨h1, h2⟩ := lsTo_scat (allV W rows P) (subTo (maskV W rows) 36) _ (Nat.le_refl _)
    refine ⟨h1, fun b hb => ?_⟩
    rcases h2 with h2 | h2
    · rw [h2] at hb; simp at hb
    · exact sub_bits 36 _ h2 b hb
  · exact ⟨by simp [scatL, pop], fun b hb => by simp at hb⟩
theorem lsV_scatV {W : Int} {rows : List Int} {P : List (List C)} (h : smallV W rows P = true) : scatV W rows P ((lsV W rows P : Nat) : Int) = true := by
  obtain ⟨hv, hpc, ha⟩ := smallV_parts h
  obtain ⟨h1, h2⟩ := lsV_spec (W := W) (rows := rows) (P := P)
  unfold scatV
  rw [hv, hpc, Int.toNat_natCast, h1, Nat.and_comm, and_in h2]
  simp
/-- A covering has at least as many masks as there are scattered cells. -/
theorem ls_cov {W : Int} {rows : List Int} {P : List (List C)} {l : List Int} (h : fewcV W rows P = some l) : pop (lsV W rows P) ≤ (ord l).length := by
  obtain ⟨hsm, j, hj, hc⟩ := fewc_parts h
  obtain ⟨c1, c2, c3⟩ := covP_spec (mask62 W rows) hc
  obtain ⟨h1, h2⟩ := lsV_spec (W := W) (rows := rows) (P := P)
  have := cover_up (y := lsV W rows P) (s := 1) (l := ord l) (fun m hm => by
    unfold scatL at h1
    rw [List.all_eq_true] at h1
    have := h1 m (c2 m ((ord_mem l m).1 hm))
    rw [decide_eq_true_eq, Nat.and_comm] at this
    exact this) (fun b hb => by
    obtain ⟨m, hm, hmb⟩ := c3 b (h2 b hb)
    exact ⟨m, (ord_mem l m).2 hm, hmb⟩)
  omega
/-- The fewest covering is a covering. -/
theorem few_cov {W : Int} {rows : List Int} {P : List (List C)} {l : List Int} (h : fewcV W rows P = some l) : covV W rows P (ord l) = true := by
  obtain ⟨hsm, j, hj, hc⟩ := fewc_parts h
  obtain ⟨hv, hpc, ha⟩ := smallV_parts hsm
  obtain ⟨c1, c2, c3⟩ := covP_spec (mask62 W rows) hc
  have hin := allV_in (P := P) hv
  obtain ⟨L, hL⟩ : ∃ L, allV W rows P = L := ⟨_, rfl⟩
  obtain ⟨M, hM⟩ : ∃ M, maskV W rows = M := ⟨_, rfl⟩
  obtain ⟨o, ho⟩ : ∃ o, ord l = o := ⟨_, rfl⟩
  have hoi := ord_inc l
  have hom : ∀ x ∈ o, x ∈ L := fun x hx => by rw [← hL]; exact c2 x ((ord_mem l x).1 (ho ▸ hx))
  have hoc : ∀ b, M.testBit b = true → ∃ m ∈ o, m.toNat.testBit b = true := fun b hb => by
    obtain ⟨m, hm, hmb⟩ := c3 b (by rw [hM]; exact hb)
    exact ⟨m, by rw [← ho]; exact (ord_mem l m).2 hm, hmb⟩
  rw [hL, hM] at hin
  rw [ho] at hoi
  unfold covV
  rw [hL, hM, ho, hv, hpc]
  have key : ∀ k, k ≤ o.length → covTo L o k = some (orL o k) := by
    intro k
    induction k with
    | zero => intro _; rfl
    | succ k ih =>
      intro hk
      have e2 : o.getD k 0 = o[k]'(by omega) := by rw [List.getD_eq_getElem?_getD, List.getElem?_eq_getElem (by omega)]; rfl
      have hok : covOk L o k (orL o k) = true := by
        unfold covOk
        rw [Bool.and_eq_true]
        refine ⟨List.any_eq_true.2 ⟨o[k]'(by omega), hom _ (List.getElem_mem _), by rw [e2]; simp⟩, ?_⟩
        cases k with
        | zero => rfl
        | succ k => simp only [Nat.add_sub_cancel]; rw [decide_eq_true (inc_get hoi (Nat.lt_succ_self k) (by omega))]; simp
      show optTo _ _ (k + 1) = _
      rw [optTo_succ (ih (by omega)), hok, if_pos rfl, orL_succ o (by omega), e2]
  rw [key o.length (Nat.le_refl _)]
  have hE : orL o o.length = M := by
    apply Nat.eq_of_testBit_eq
    intro b
    rw [Bool.eq_iff_iff, orL_bit o b _ (Nat.le_refl _), List.take_length]
    exact ⟨fun ⟨m, hm, hb⟩ => hin m (hom m hm) b hb, hoc b⟩
  rw [hE]
  simp [optIs]
end Go.Proofs.YtoedmmhiinhljaaGreatDoor

/- Tilings that a motion keeps: plain. -/
namespace Go.Proofs.YtoedmmhiinhljaaGreatDoor
open Go.RowKit
set_option linter.unusedVariables false
theorem pos_id (n h i : Nat) : pos n h 0 i = i := by
  unfold pos carry startQ
  show ((((i / n : Nat) : Int)) * n + ((i % n : Nat) : Int)).toNat = i
  have := Nat.div_add_mod i n
  rw [Nat.mul_comm] at this
  omega
theorem turn_id (n h mask : Nat) : ∀ k, turnTo n h 0 mask k = mask % 2 ^ k
  | 0 => by rw [Nat.pow_zero, Nat.mod_one]; rfl
  | k + 1 => by
    show turnTo n h 0 mask k + _ = _
    rw [turn_id n h mask k, pos_id, Nat.mod_pow_succ, Nat.testBit_eq_decide_div_mod_eq]
    rcases Nat.mod_two_eq_zero_or_one (mask / 2 ^ k) with h1 | h1
    · rw [h1]; simp
    · rw [h1]; simp
theorem motTo_zero {n h mv : Nat} (hk : keepM n h mv 0 = true) : ∀ k, (0 : Int) ∈ motTo n h mv (k + 1)
  | 0 => by
    unfold motTo
    rw [hk]
    simp
  | k + 1 => by
    rw [motTo]
    exact List.mem_append_left _ (motTo_zero hk k)
theorem motV_ne {W : Int} {rows : List Int} (h : isReg W rows = true) : motV W rows ≠ [] := by
  have hlt := maskV_lt2 h
  unfold motV
  rw [if_pos h]
  have hk : keepM W.toNat rows.length (maskV W rows) 0 = true := by
    unfold keepM
    rw [turn_id, Nat.mod_eq_of_lt hlt]
    simp [goesM]
  exact List.ne_nil_of_mem (motTo_zero hk 7)
/-- The first 500 tilings. -/
def l15V (W : Int) (rows : List Int) (P : List (List C)) : List (List Int) := (tilV (allV W rows P) (maskV W rows)).take 500
theorem l15_ok {W : Int} {rows : List Int} {P : List (List C)} {l : List Int} (h : isReg W rows = true) (hM : Msk 36 (allV W rows P)) (hl : l ∈ l15V W rows P) : l.all (okMask W rows) = true := by
  have h36 := maskV_62 h
  have h1 := (til_spec (by omega) (List.mem_of_mem_take hl)).1
  rw [List.all_eq_true]
  intro x hx
  obtain ⟨h2, h3⟩ := h1 x hx
  obtain ⟨k, rfl, _⟩ := hM x h2
  unfold okMask
  rw [decide_eq_true (by omega)]
  exact h3
def keptB (W : Int) (rows : List Int) (m : Int) (l : List Int) : Bool := decide (ttV W rows l m = l)
def fixN (W : Int) (rows : List Int) (P : List (List C)) (m : Int) : Nat := (l15V W rows P).countP (keptB W rows m)
def fixV (W : Int) (rows : List Int) (P : List (List C)) (m : Int) : Int := if (isReg W rows && pcs P) && (motV W rows).any (· == m) then (fixN W rows P m : Nat) else -1
theorem fixN_le (W : Int) (rows : List Int) (P : List (List C)) (m : Int) : fixN W rows P m ≤ 500 := by
  unfold fixN l15V
  have h1 := List.countP_le_length (p := keptB W rows m) (l := (tilV (allV W rows P) (maskV W rows)).take 500)
  rw [List.length_take] at h1
  omega
def sumN (W : Int) (rows : List Int) (P : List (List C)) (ms : List Int) : Nat := (ms.map (fixN W rows P)).sum
theorem sumN_take {W : Int} {rows : List Int} {P : List (List C)} {ms : List Int} {k : Nat} (h : k < ms.length) : sumN W rows P (ms.take (k + 1)) = sumN W rows P (ms.take k) + fixN W rows P ms[k] := by
  unfold sumN
  rw [List.take_succ_eq_append_getElem h, List.map_append, List.sum_append]
  simp
theorem sumN_le (W : Int) (rows : List Int) (P : List (List C)) : ∀ ms : List Int, sumN W rows P ms ≤ 500 * ms.length
  | [] => by simp [sumN]
  | m :: ms => by
    have h1 := sumN_le W rows P ms
    have h2 := fixN_le W rows P m
    unfold sumN at *
    simp only [List.map_cons, List.sum_cons, List.length_cons]
    omega
def orbV (W : Int) (rows : List Int) (P : List (List C)) : Int :=
  if (isReg W rows && pcs P) && decide ((l15V W rows P).length < 500) then ((sumN W rows P (motV W rows) / (motV W rows).length : Nat) : Int) else -1
end Go.Proofs.YtoedmmhiinhljaaGreatDoor

/- The place of the least bit: the reference. -/
namespace Go.Proofs.YtoedmmhiinhljaaGreatDoor
open Go.RowKit
set_option linter.unusedVariables false
attribute [local go_sem ↓] Go.wp_at_zero Go.wp_at_succ

theorem bit_testC (m k : Nat) (hm : m < 2 ^ 62) : (bits .and .i64 ((m : Int) / 2 ^ k) 1 == 0) = !m.testBit k := by
  rw [show ((m : Int) / 2 ^ k) = ((m / 2 ^ k : Nat) : Int) by simp]
  have h := i64_and (m / 2 ^ k) 1 (by have := Nat.div_le_self m (2 ^ k); omega) (by decide)
  have h1 : ((1 : Nat) : Int) = 1 := rfl
  rw [h1] at h
  rw [h, Nat.and_one_is_mod, Nat.testBit_eq_decide_div_mod_eq]
  rcases Nat.mod_two_eq_zero_or_one (m / 2 ^ k) with h2 | h2 <;> simp [h2]
set_option maxHeartbeats 800000 in
theorem l8Low_s (m : Nat) (w : World) (h0 : m ≠ 0) (hm : m < 2 ^ 62) : Calls Tryz.prog 57 #[.int .i64 (m : Int)] w (Ret w (.int .i64 (lowN m : Nat))) := by
  have hpos : (m : Int) > 0 := by omega
  obtain ⟨hlb, hl64⟩ := lowN_bit h0 (by omega)
  have hbel : ∀ j, j < lowN m → m.testBit j = false := fun j hj => lowN_below h0 (by omega) hj
  obtain ⟨q, hq⟩ : ∃ q, lowN m = q := ⟨_, rfl⟩
  rw [hq] at hlb hl64 hbel ⊢
  have HLB := Lib.hid hlb
  have HBEL := Lib.hid hbel
  have HM := Lib.hid hm
  clear hlb hbel hq hm h0
  go_enter Tryz.func57, Tryz.ntmps57
  go_wp2_with fail
  go_loopw [3] (fun e3 wr => ∃ i : Nat, i ≤ q ∧ e3 = .int .i64 i ∧ Below w.heap.size w wr) (fun e3 _ => q - (intOf e3).toNat)
  case atStart => exact ⟨0, Nat.zero_le _, rfl, Below.refl _ _⟩
  case round =>
    obtain ⟨i, hi, rfl, hb⟩ := hrel
    have hi0 : (0 : Int) ≤ (i : Int) := by omega
    have hi64 : (i : Int) ≤ 64 := by omega
    have ei : IntKind.i64.wrap (i : Int) = (i : Int) := Go.IntWalk.i64_in _ (by omega)
    have hbit := bit_testC m i HM.out
    obtain ⟨d, hd⟩ : ∃ d, m / 2 ^ i = d := ⟨_, rfl⟩
    have hdI : (m : Int) / 2 ^ i = (d : Int) := by rw [← hd]; simp
    rw [hdI] at hbit
    clear hd
    by_cases hlt : i < q
    · rw [HBEL.out i hlt] at hbit
      go_wp2_with fail
      exact ⟨⟨i + 1, by omega, by go_num, hb⟩, by simp [intOf]; omega⟩
    · obtain rfl : i = q := by omega
      rw [HLB.out] at hbit
      go_wp2_with fail
      go_ret
      exact ⟨rfl, hb⟩
end Go.Proofs.YtoedmmhiinhljaaGreatDoor

/- A tiling turned: the reference. -/
namespace Go.Proofs.YtoedmmhiinhljaaGreatDoor
open Go.RowKit
set_option linter.unusedVariables false
attribute [local go_sem ↓] Go.wp_at_zero Go.wp_at_succ

theorem l8Low_k (x : Int) (w : World) (h0 : 0 ≤ x) (hx : x < 2 ^ 62) : Calls Tryz.prog 57 #[.int .i64 x] w (Ret w (.int .i64 (keyT x : Nat))) := by
  obtain ⟨m, rfl⟩ : ∃ m : Nat, x = m := ⟨x.toNat, by omega⟩
  by_cases hm : m = 0
  · subst hm
    have hk : keyT ((0 : Nat) : Int) = 0 := rfl
    rw [hk]
    have h0I : ¬ ((0 : Nat) : Int) > 0 := by omega
    go_enter Tryz.func57, Tryz.ntmps57
    go_wp2_with fail
    go_loopw [3] (fun e3 wr => e3 = .int .i64 0 ∧ wr = w) (fun e3 _ => 0)
    case atStart => exact ⟨rfl, rfl⟩
    case round =>
      obtain ⟨rfl, rfl⟩ := hrel
      go_wp2_with fail
      go_ret
      exact ⟨rfl, Below.refl _ _⟩
  · have hk : keyT (m : Int) = lowN m := by unfold keyT; rw [if_neg (by omega), Int.toNat_natCast]
    rw [hk]
    exact l8Low_s m w hm (by omega)
theorem pos_step {key : Int → Nat} {x : Int} {out : List Int} {k j : Nat} (hk : k = j + 1) (h : key x < key (out.getD j 0)) : StM.pos key x out k = StM.pos key x out j := by
  subst hk
  show (if _ then _ else _) = _
  rw [if_pos h]
theorem pos_here {key : Int → Nat} {x : Int} {out : List Int} {k j : Nat} (hk : k = j + 1) (h : ¬ key x < key (out.getD j 0)) : StM.pos key x out k = k := by
  subst hk
  show (if _ then _ else _) = _
  rw [if_neg h]
set_option maxRecDepth 100000 in
set_option maxHeartbeats 6400000 in
theorem l23Sort_s (A : Option Addr) (n c : Nat) (L : List Int) (w : World) (hr : Rd w A (vI L)) (hl : L.length = n) (hn : n ≤ 1048576) (hx : ∀ x ∈ L, 0 ≤ x ∧ x < 2 ^ 62) :
    Calls Tryz.prog 42 #[.slice A n c] w (RetS w 3 1 (vI (StM.stS keyT L))) := by
  have HR := Lib.hid hr
  have HL := Lib.hid hl
  have HX := Lib.hid hx
  have HO0 := Lib.hid (own_blk (w := w.alloc (.cells #[] 3)) (cs := #[]) (Blk.new w 3 #[]) (base := w.heap.size) (size := 1) (n := 0) rfl (Nat.le_refl _) (Nat.zero_le _))
  clear hr hl hx
  go_enter Tryz.func42, Tryz.ntmps42
  go_wp2_with fail
  go_loopw [4, 3] (fun e4 e3 wr => ∃ (i g co : Nat) (out : List Int), i ≤ n ∧ e4 = .int .i64 i ∧ e3 = .slice (some ⟨g, 0, none⟩) i co ∧ out = StM.stS keyT (L.take i) ∧ wr.ownsRow w.heap.size 3 1 (.slice (some ⟨g, 0, none⟩) i co) i (vI out) ∧ (∀ x ∈ out, 0 ≤ x ∧ x < 2 ^ 62) ∧ Below w.heap.size w wr) (fun e4 _ _ => n - (intOf e4).toNat)
  case atStart => exact ⟨0, w.heap.size, 0, [], Nat.zero_le _, rfl, by simp, rfl, HO0.out, (fun x h => by cases h), bel_alloc (Below.refl _ _) _⟩
  case round =>
    obtain ⟨w1, hw1⟩ : ∃ w1, w1 = wr := ⟨_, rfl⟩
    subst hw1
    obtain ⟨i, g, co, out, hin, rfl, rfl, hout, hown, hrng, hb⟩ := hrel
    have hol : out.length = i := by have := own_len hown; rw [vI_length] at this; omega
    have HOUT := Lib.hid hout
    have HOW := Lib.hid hown
    have HRNG := Lib.hid hrng
    have HOL := Lib.hid hol
    have HB := Lib.hid hb
    have hgl := (own_lt hown g rfl).2
    have hmc : i ≤ co ∧ co ≤ 9223372036854775807 := by
      rcases hown.2 with ⟨h, _⟩ | ⟨g', cap, cur, hv, _, _, h1, h2, _⟩
      · cases h
      · injection hv with _ _ h3
        unfold maxLen at h2
        omega
    clear hout hown hrng hol hb
    by_cases hlt : i < n
    · have hi0 : (0 : Int) ≤ (i : Int) := by omega
      have hi1 : (i : Int) < (n : Int) := by omega
      have hil : i < L.length := by rw [HL.out]; exact hlt
      obtain ⟨gl, off, hA, hgl2, d1⟩ := RdI.at_ (HR.out.below HB.out) hil
      obtain ⟨x, hx⟩ : ∃ x, L[i] = x := ⟨_, rfl⟩
      have hxr := HX.out _ (List.getElem_mem hil)
      rw [hx] at d1 hxr
      have hst : StM.stS keyT (L.take (i + 1)) = StM.insS keyT out x := by
        unfold StM.stS
        rw [List.take_succ_eq_append_getElem hil, List.foldl_append, hx, HOUT.out]
        rfl
      have HST := Lib.hid hst
      have HXR := Lib.hid hxr
      have HD1 := Lib.hid d1
      clear hx hst hxr d1 hil
      subst hA
      go_wp2_with fail
      go_loopw [5] (fun e5 wr2 => ∃ k : Nat, k ≤ i ∧ e5 = .int .i64 k ∧ StM.pos keyT x out i = StM.pos keyT x out k ∧ Below w1.heap.size w1 wr2) (fun e5 _ => (intOf e5).toNat)
      case atStart => exact ⟨i, Nat.le_refl _, rfl, rfl, Below.refl _ _⟩
      case round =>
        obtain ⟨k, hk, rfl, hpos, hb2⟩ := hrel
        have HPOS := Lib.hid hpos
        have HB2 := Lib.hid hb2
        have d1 : wr.cell? ⟨gl, off + i, none⟩ = some (.int .i64 x) := keep_below hb2 HD1.out
        have dl := World.block_lt_of_cell? _ _ d1
        have hgl3 : g < wr.heap.size := by have := hb2.size; omega
        clear hpos hb2
        by_cases hk0 : 0 < k
        · obtain ⟨p, hp⟩ : ∃ p, k = p + 1 := ⟨k - 1, by omega⟩
          have hkI : (k : Int) > 0 := by omega
          have hpI : (k : Int) - 1 = (p : Int) := by omega
          have hpw : IntKind.i64.wrap (p : Int) = (p : Int) := Go.IntWalk.i64_in _ (by omega)
          have hp0 : (0 : Int) ≤ (p : Int) := by omega
          have hp1 : (p : Int) < (i : Int) := by omega
          have hpl : p < out.length := by rw [HOL.out]; omega
          obtain ⟨g2, off2, he, _, c1⟩ := RdI.at_ ((Rd.of_own HOW.out).below HB2.out) hpl
          simp only [Option.some.injEq, Addr.mk.injEq, and_true] at he
          obtain ⟨rfl, rfl⟩ := he
          rw [Nat.zero_add] at c1
          have hgd : out.getD p 0 = out[p] := by rw [List.getD_eq_getElem?_getD, List.getElem?_eq_getElem hpl]; rfl
          have hyr := HRNG.out _ (List.getElem_mem hpl)
          obtain ⟨y, hy⟩ : ∃ y, out[p] = y := ⟨_, rfl⟩
          rw [hy] at c1 hgd hyr
          obtain ⟨kx, hkx⟩ : ∃ kx, keyT x = kx := ⟨_, rfl⟩
          obtain ⟨ky, hky⟩ : ∃ ky, keyT y = ky := ⟨_, rfl⟩
          have HKX : Hid (∀ w', Calls Tryz.prog 57 #[.int .i64 x] w' (Ret w' (.int .i64 (kx : Int)))) := fun w' => by have h := l8Low_k x w' HXR.out.1 HXR.out.2; rw [hkx] at h; exact h
          have HKY : Hid (∀ w', Calls Tryz.prog 57 #[.int .i64 y] w' (Ret w' (.int .i64 (ky : Int)))) := fun w' => by have h := l8Low_k y w' hyr.1 hyr.2; rw [hky] at h; exact h
          have HYR := Lib.hid hyr
          have hcase : (kx < ky → StM.pos keyT x out i = StM.pos keyT x out p) ∧ (¬ kx < ky → StM.pos keyT x out i = k) :=
            ⟨fun h => by rw [HPOS.out]; exact pos_step hp (by rw [hgd, hkx, hky]; exact h), fun h => by rw [HPOS.out]; exact pos_here hp (by rw [hgd, hkx, hky]; exact h)⟩
          have HCASE := Lib.hid hcase
          have HPK := Lib.hid (show p < k by omega)
          have hpk : p ≤ i := by omega
          clear hp hpl hgd hyr hy hkx hky hcase
          by_cases hgt : kx < ky
          · have hgI : (kx : Int) < (ky : Int) := by omega
            have HN := Lib.hid (HCASE.out.1 hgt)
            go_upto_region 6 with fail
            (refine wp_region_below (by kernel_rfl) (by kernel_rfl) ?_; (repeat (first | go_big_quiet_skip | (refine quietV (v := ?_) (by rfl) rfl (fun w' hbw => ?_) ?_; rotate_left; ((try dsimp only at hbw); have hbc := (bcell hbw).1; have hbf := (bcell hbw).2; go_simp; first | done | with_reducible rfl | first | (with_reducible exact callsB (v := .int .i64 (ky : Int)) (HKY.out _) hbw) | (with_reducible exact callsB (v := .int .i64 (kx : Int)) (HKX.out _) hbw)); simp only [List.setIfInBounds_toArray, List.set_cons_zero, List.set_cons_succ]))); refine wpQuiet_nil ?_; intro wz hbz)
            go_wp2_with fail
            exact ⟨⟨p, hpk, rfl, HN.out, bel_trans HB2.out hbz⟩, by have := HPK.out; simp [intOf]; omega⟩
          · have hgI : ¬ (kx : Int) < (ky : Int) := by omega
            have HPE := Lib.hid (HCASE.out.2 hgt)
            go_upto_region 6 with fail
            (refine wp_region_below (by kernel_rfl) (by kernel_rfl) ?_; (repeat (first | go_big_quiet_skip | (refine quietV (v := ?_) (by rfl) rfl (fun w' hbw => ?_) ?_; rotate_left; ((try dsimp only at hbw); have hbc := (bcell hbw).1; have hbf := (bcell hbw).2; go_simp; first | done | with_reducible rfl | first | (with_reducible exact callsB (v := .int .i64 (ky : Int)) (HKY.out _) hbw) | (with_reducible exact callsB (v := .int .i64 (kx : Int)) (HKX.out _) hbw)); simp only [List.setIfInBounds_toArray, List.set_cons_zero, List.set_cons_succ]))); refine wpQuiet_nil ?_; intro wz hbz)
            have HBQ := Lib.hid (bel_trans HB2.out hbz)
            clear c1 d1 dl hbz
            have HINS : Hid (out.take k ++ [x] ++ out.drop k = StM.stS keyT (L.take (i + 1))) := by
              show _ = _
              rw [HST.out]
              unfold StM.insS
              rw [HOL.out, HPE.out]
              simp
            have HRN2 : Hid (∀ z ∈ StM.stS keyT (L.take (i + 1)), 0 ≤ z ∧ z < 2 ^ 62) := fun z hz => by
              rw [← HINS.out, List.mem_append, List.mem_append, List.mem_singleton] at hz
              rcases hz with (hz | hz) | hz
              · exact HRNG.out z (List.mem_of_mem_take hz)
              · rw [hz]; exact HXR.out
              · exact HRNG.out z (List.mem_of_mem_drop hz)
            go_wp2_with fail
            obtain ⟨i0, hi, hz0, hz1, hz2⟩ := info_parts infoI
            have hs1 : ∀ w', (Instr.slice 22 (.slice (some ⟨g, 0, none⟩) i co) none (some (.int .i64 (k : Int))) none).run Tryz.prog w' = .ok (.slice (some ⟨g, 0, none⟩) k co) w' := fun w' => run_upto w' g i co k (by omega)
            have hs2 : ∀ w', (Instr.slice 22 (.slice (some ⟨g, 0, none⟩) i co) (some (.int .i64 (k : Int))) none none).run Tryz.prog w' = .ok (.slice (some ⟨g, offK co k, none⟩) (i - k) (co - k)) w' := fun w' => run_from w' g i co k hk
            have hrw := (Rd.of_own HOW.out).below HBQ.out
            have r2 : Rd wz (some ⟨g, offK co k, none⟩) (vI (out.drop k)) := Rd.from_ hrw HOL.out hmc.1
            have r1 : Rd wz (some ⟨g, 0, none⟩) (vI (out.take k)) := by rw [vI_take]; exact Rd.take hrw _
            have L1 : Hid ((out.take k).length = k) := by show (out.take k).length = k; rw [List.length_take, HOL.out]; omega
            have L2 : Hid ((out.drop k).length = i - k) := by show (out.drop k).length = i - k; rw [List.length_drop, HOL.out]
            have R1 := Lib.hid r1
            have R2 := Lib.hid r2
            have HI := Lib.hid hi
            have HZ0 := Lib.hid hz0
            have HZ1 := Lib.hid hz1
            have HZ2 := Lib.hid hz2
            have dq : wz.cell? ⟨gl, off + i, none⟩ = some (.int .i64 x) := keep_below HBQ.out HD1.out
            have dql := World.block_lt_of_cell? _ _ dq
            clear r1 r2 hi hz0 hz1 hz2 hrw
            refine wp_region_rg 16 rfl (by kernel_rfl) ?_
            (refine rgT (i := 1) (v := ?_) rfl rfl (by kernel_rfl) (by kernel_rfl) (by kernel_rfl) (by rfl) (fun w' hcw => ?_) ?_; rotate_left; ((try dsimp only at hcw); have hbc := hcw.cells; go_simp; first | done | with_reducible rfl); simp only [List.setIfInBounds_toArray, List.set_cons_zero, List.set_cons_succ])
            (refine rgT (i := 2) (v := ?_) rfl rfl (by kernel_rfl) (by kernel_rfl) (by kernel_rfl) (by rfl) (fun w' hcw => ?_) ?_; rotate_left; ((try dsimp only at hcw); have hbc := hcw.cells; go_simp; first | done | with_reducible rfl); simp only [List.setIfInBounds_toArray, List.set_cons_zero, List.set_cons_succ])
            (refine rgT (i := 3) (v := ?_) rfl rfl (by kernel_rfl) (by kernel_rfl) (by kernel_rfl) (by rfl) (fun w' hcw => ?_) ?_; rotate_left; ((try dsimp only at hcw); have hbc := hcw.cells; go_simp; first | done | with_reducible rfl); simp only [List.setIfInBounds_toArray, List.set_cons_zero, List.set_cons_succ])
            (refine rgT (i := 5) (v := ?_) rfl rfl (by kernel_rfl) (by kernel_rfl) (by kernel_rfl) (by rfl) (fun w' hcw => ?_) ?_; rotate_left; ((try dsimp only at hcw); have hbc := hcw.cells; go_simp; first | done | with_reducible rfl); simp only [List.setIfInBounds_toArray, List.set_cons_zero, List.set_cons_succ])
            (refine rgT (i := 6) (v := ?_) rfl rfl (by kernel_rfl) (by kernel_rfl) (by kernel_rfl) (by rfl) (fun w' hcw => ?_) ?_; rotate_left; ((try dsimp only at hcw); have hbc := hcw.cells; go_simp; first | done | with_reducible rfl); simp only [List.setIfInBounds_toArray, List.set_cons_zero, List.set_cons_succ])
            (refine rgT (i := 7) (v := ?_) rfl rfl (by kernel_rfl) (by kernel_rfl) (by kernel_rfl) (by rfl) (fun w' hcw => ?_) ?_; rotate_left; ((try dsimp only at hcw); have hbc := hcw.cells; go_simp; first | done | with_reducible rfl); simp only [List.setIfInBounds_toArray, List.set_cons_zero, List.set_cons_succ])
            (refine rgT (i := 8) (v := ?_) rfl rfl (by kernel_rfl) (by kernel_rfl) (by kernel_rfl) (by rfl) (fun w' hcw => ?_) ?_; rotate_left; ((try dsimp only at hcw); have hbc := hcw.cells; go_simp; first | done | with_reducible rfl); simp only [List.setIfInBounds_toArray, List.set_cons_zero, List.set_cons_succ])
            (refine rgT (i := 11) (v := ?_) rfl rfl (by kernel_rfl) (by kernel_rfl) (by kernel_rfl) (by rfl) (fun w' hcw => ?_) ?_; rotate_left; ((try dsimp only at hcw); have hbc := hcw.cells; go_simp; first | done | with_reducible rfl); simp only [List.setIfInBounds_toArray, List.set_cons_zero, List.set_cons_succ])
            (refine rgT (i := 12) (v := ?_) rfl rfl (by kernel_rfl) (by kernel_rfl) (by kernel_rfl) (by rfl) (fun w' hcw => ?_) ?_; rotate_left; ((try dsimp only at hcw); have hbc := hcw.cells; go_simp; first | done | with_reducible rfl); simp only [List.setIfInBounds_toArray, List.set_cons_zero, List.set_cons_succ])
            (refine rgT (i := 13) (v := ?_) rfl rfl (by kernel_rfl) (by kernel_rfl) (by kernel_rfl) (by rfl) (fun w' hcw => ?_) ?_; rotate_left; ((try dsimp only at hcw); have hbc := hcw.cells; go_simp; first | done | with_reducible rfl); simp only [List.setIfInBounds_toArray, List.set_cons_zero, List.set_cons_succ])
            refine ins_tail (T := 22) (e := 3) (i := i0) (z := .int .i64 0) (size := 1) (bytes := 8) (i0 := 0) (iA := 4) (iN := 9) (iB := 10) (iD := 14) (iE := 15) (s0 := 33) (sA := 37) (sN := 42) (sB := 43) (sD := 47) (dE := 3) (t1 := 36) (t2 := 46) (xn := .tmp 41) (vn := .int .i64 x) (news := vI [x]) (vs1 := vI (out.take k)) (vs2 := vI (out.drop k)) (A1 := some ⟨g, 0, none⟩) (m1 := k) (c1 := co) (A2 := some ⟨g, offK co k, none⟩) (m2 := i - k) (c2 := co - k) _ ?ht ?hi ?hz ?h1 ?h2 rfl (by omega) ⟨⟨_, rfl, rfl, rfl, fun a w => ?p0⟩, ⟨_, rfl, rfl, rfl, rfl⟩, ⟨_, rfl, rfl, rfl, fun a w h => ?pN⟩, ⟨_, rfl, rfl, rfl, rfl⟩, ⟨_, rfl, rfl, rfl, rfl⟩, ⟨_, rfl, rfl, rfl, rfl⟩⟩ ⟨by simp, by decide, by decide, by decide⟩ (fun a h => (h.eval (by decide)).trans rfl) (by kernel_rfl) (by kernel_rfl) (by kernel_rfl) (by kernel_rfl) (by kernel_rfl) (by decide) (by decide) (by kernel_rfl) (by kernel_rfl) (by kernel_rfl) (by kernel_rfl) rfl ?q1 ?l1 ?o1 rfl ?q2 ?l2 ?o2 ?ln ?on ?hm ?hb ?hQ
            case ht => exact Tryz.underlying22
            case hi => exact HI.out
            case hz => exact HZ0.out
            case h1 => exact HZ1.out
            case h2 => exact HZ2.out
            case p0 => simp [go_sem, execOp]
            case pN => (generalize Act.eval a = ρ at h ⊢; simp [go_sem, execOp, h, vI])
            case q1 => exact R1.out
            case l1 => rw [vI_length, L1.out] <;> omega
            case o1 => exact vI_one _
            case q2 => exact R2.out
            case l2 => rw [vI_length, L2.out] <;> omega
            case o2 => exact vI_one _
            case ln => rfl
            case on => exact vI_one _
            case hm => omega
            case hb => omega
            case hQ =>
              intro a' w' A' c' hfr hev how hex
              have e2 : k + 1 + (i - k) = i + 1 := by omega
              rw [e2] at hev how
              obtain ⟨v0, vA, vN, vB, vD, rfl⟩ := hfr.form hev
              rw [← vI_append, ← vI_append, HINS.out] at how
              obtain ⟨g', rfl, _, _⟩ := own_at how (by omega)
              have hbz := bel_trans (bel_trans HB.out HBQ.out) hex
              have HOWN := Lib.hid (own_base how (by have h1 := HB.out.size; have h2 := HBQ.out.size; omega : w.heap.size ≤ _))
              have HBZ := Lib.hid hbz
              clear how hev hfr hbz hex
              refine NoPanic.normal ?_
              simp only [List.setIfInBounds_toArray, List.set_cons_zero, List.set_cons_succ]
              go_wp2_with fail
              exact ⟨⟨i + 1, g', c', _, by omega, by go_num, rfl, HST.out.symm ▸ rfl, HOWN.out, HRN2.out, HBZ.out⟩, by simp [intOf]; omega⟩
        · have hkI : ¬ (k : Int) > 0 := by omega
          have hkd : decide ((k : Int) > 0) = false := decide_eq_false hkI
          have HPE : Hid (StM.pos keyT x out i = k) := by show _ = _; rw [HPOS.out, show k = 0 by omega]; rfl
          clear hkI
          go_upto_region 6 with fail
          (refine wp_region_below (by kernel_rfl) (by kernel_rfl) ?_; (repeat (first | go_big_quiet_skip | (refine quietV (v := ?_) (by rfl) rfl (fun w' hbw => ?_) ?_; rotate_left; ((try dsimp only at hbw); have hbc := (bcell hbw).1; have hbf := (bcell hbw).2; go_simp; first | done | with_reducible rfl | fail); simp only [List.setIfInBounds_toArray, List.set_cons_zero, List.set_cons_succ]))); refine wpQuiet_nil ?_; intro wz hbz)
          have HBQ := Lib.hid (bel_trans HB2.out hbz)
          clear d1 dl hbz
          have HINS : Hid (out.take k ++ [x] ++ out.drop k = StM.stS keyT (L.take (i + 1))) := by
            show _ = _
            rw [HST.out]
            unfold StM.insS
            rw [HOL.out, HPE.out]
            simp
          have HRN2 : Hid (∀ z ∈ StM.stS keyT (L.take (i + 1)), 0 ≤ z ∧ z < 2 ^ 62) := fun z hz => by
            rw [← HINS.out, List.mem_append, List.mem_append, List.mem_singleton] at hz
            rcases hz with (hz | hz) | hz
            · exact HRNG.out z (List.mem_of_mem_take hz)
            · rw [hz]; exact HXR.out
            · exact HRNG.out z (List.mem_of_mem_drop hz)
          go_wp2_with fail
          obtain ⟨i0, hi, hz0, hz1, hz2⟩ := info_parts infoI
          have hs1 : ∀ w', (Instr.slice 22 (.slice (some ⟨g, 0, none⟩) i co) none (some (.int .i64 (k : Int))) none).run Tryz.prog w' = .ok (.slice (some ⟨g, 0, none⟩) k co) w' := fun w' => run_upto w' g i co k (by omega)
          have hs2 : ∀ w', (Instr.slice 22 (.slice (some ⟨g, 0, none⟩) i co) (some (.int .i64 (k : Int))) none none).run Tryz.prog w' = .ok (.slice (some ⟨g, offK co k, none⟩) (i - k) (co - k)) w' := fun w' => run_from w' g i co k hk
          have hrw := (Rd.of_own HOW.out).below HBQ.out
          have r2 : Rd wz (some ⟨g, offK co k, none⟩) (vI (out.drop k)) := Rd.from_ hrw HOL.out hmc.1
          have r1 : Rd wz (some ⟨g, 0, none⟩) (vI (out.take k)) := by rw [vI_take]; exact Rd.take hrw _
          have L1 : Hid ((out.take k).length = k) := by show (out.take k).length = k; rw [List.length_take, HOL.out]; omega
          have L2 : Hid ((out.drop k).length = i - k) := by show (out.drop k).length = i - k; rw [List.length_drop, HOL.out]
          have R1 := Lib.hid r1
          have R2 := Lib.hid r2
          have HI := Lib.hid hi
          have HZ0 := Lib.hid hz0
          have HZ1 := Lib.hid hz1
          have HZ2 := Lib.hid hz2
          have dq : wz.cell? ⟨gl, off + i, none⟩ = some (.int .i64 x) := keep_below HBQ.out HD1.out
          have dql := World.block_lt_of_cell? _ _ dq
          clear r1 r2 hi hz0 hz1 hz2 hrw
          refine wp_region_rg 16 rfl (by kernel_rfl) ?_
          (refine rgT (i := 1) (v := ?_) rfl rfl (by kernel_rfl) (by kernel_rfl) (by kernel_rfl) (by rfl) (fun w' hcw => ?_) ?_; rotate_left; ((try dsimp only at hcw); have hbc := hcw.cells; go_simp; first | done | with_reducible rfl); simp only [List.setIfInBounds_toArray, List.set_cons_zero, List.set_cons_succ])
          (refine rgT (i := 2) (v := ?_) rfl rfl (by kernel_rfl) (by kernel_rfl) (by kernel_rfl) (by rfl) (fun w' hcw => ?_) ?_; rotate_left; ((try dsimp only at hcw); have hbc := hcw.cells; go_simp; first | done | with_reducible rfl); simp only [List.setIfInBounds_toArray, List.set_cons_zero, List.set_cons_succ])
          (refine rgT (i := 3) (v := ?_) rfl rfl (by kernel_rfl) (by kernel_rfl) (by kernel_rfl) (by rfl) (fun w' hcw => ?_) ?_; rotate_left; ((try dsimp only at hcw); have hbc := hcw.cells; go_simp; first | done | with_reducible rfl); simp only [List.setIfInBounds_toArray, List.set_cons_zero, List.set_cons_succ])
          (refine rgT (i := 5) (v := ?_) rfl rfl (by kernel_rfl) (by kernel_rfl) (by kernel_rfl) (by rfl) (fun w' hcw => ?_) ?_; rotate_left; ((try dsimp only at hcw); have hbc := hcw.cells; go_simp; first | done | with_reducible rfl); simp only [List.setIfInBounds_toArray, List.set_cons_zero, List.set_cons_succ])
          (refine rgT (i := 6) (v := ?_) rfl rfl (by kernel_rfl) (by kernel_rfl) (by kernel_rfl) (by rfl) (fun w' hcw => ?_) ?_; rotate_left; ((try dsimp only at hcw); have hbc := hcw.cells; go_simp; first | done | with_reducible rfl); simp only [List.setIfInBounds_toArray, List.set_cons_zero, List.set_cons_succ])
          (refine rgT (i := 7) (v := ?_) rfl rfl (by kernel_rfl) (by kernel_rfl) (by kernel_rfl) (by rfl) (fun w' hcw => ?_) ?_; rotate_left; ((try dsimp only at hcw); have hbc := hcw.cells; go_simp; first | done | with_reducible rfl); simp only [List.setIfInBounds_toArray, List.set_cons_zero, List.set_cons_succ])
          (refine rgT (i := 8) (v := ?_) rfl rfl (by kernel_rfl) (by kernel_rfl) (by kernel_rfl) (by rfl) (fun w' hcw => ?_) ?_; rotate_left; ((try dsimp only at hcw); have hbc := hcw.cells; go_simp; first | done | with_reducible rfl); simp only [List.setIfInBounds_toArray, List.set_cons_zero, List.set_cons_succ])
          (refine rgT (i := 11) (v := ?_) rfl rfl (by kernel_rfl) (by kernel_rfl) (by kernel_rfl) (by rfl) (fun w' hcw => ?_) ?_; rotate_left; ((try dsimp only at hcw); have hbc := hcw.cells; go_simp; first | done | with_reducible rfl); simp only [List.setIfInBounds_toArray, List.set_cons_zero, List.set_cons_succ])
          (refine rgT (i := 12) (v := ?_) rfl rfl (by kernel_rfl) (by kernel_rfl) (by kernel_rfl) (by rfl) (fun w' hcw => ?_) ?_; rotate_left; ((try dsimp only at hcw); have hbc := hcw.cells; go_simp; first | done | with_reducible rfl); simp only [List.setIfInBounds_toArray, List.set_cons_zero, List.set_cons_succ])
          (refine rgT (i := 13) (v := ?_) rfl rfl (by kernel_rfl) (by kernel_rfl) (by kernel_rfl) (by rfl) (fun w' hcw => ?_) ?_; rotate_left; ((try dsimp only at hcw); have hbc := hcw.cells; go_simp; first | done | with_reducible rfl); simp only [List.setIfInBounds_toArray, List.set_cons_zero, List.set_cons_succ])
          refine ins_tail (T := 22) (e := 3) (i := i0) (z := .int .i64 0) (size := 1) (bytes := 8) (i0 := 0) (iA := 4) (iN := 9) (iB := 10) (iD := 14) (iE := 15) (s0 := 33) (sA := 37) (sN := 42) (sB := 43) (sD := 47) (dE := 3) (t1 := 36) (t2 := 46) (xn := .tmp 41) (vn := .int .i64 x) (news := vI [x]) (vs1 := vI (out.take k)) (vs2 := vI (out.drop k)) (A1 := some ⟨g, 0, none⟩) (m1 := k) (c1 := co) (A2 := some ⟨g, offK co k, none⟩) (m2 := i - k) (c2 := co - k) _ ?ht ?hi ?hz ?h1 ?h2 rfl (by omega) ⟨⟨_, rfl, rfl, rfl, fun a w => ?p0⟩, ⟨_, rfl, rfl, rfl, rfl⟩, ⟨_, rfl, rfl, rfl, fun a w h => ?pN⟩, ⟨_, rfl, rfl, rfl, rfl⟩, ⟨_, rfl, rfl, rfl, rfl⟩, ⟨_, rfl, rfl, rfl, rfl⟩⟩ ⟨by simp, by decide, by decide, by decide⟩ (fun a h => (h.eval (by decide)).trans rfl) (by kernel_rfl) (by kernel_rfl) (by kernel_rfl) (by kernel_rfl) (by kernel_rfl) (by decide) (by decide) (by kernel_rfl) (by kernel_rfl) (by kernel_rfl) (by kernel_rfl) rfl ?q1 ?l1 ?o1 rfl ?q2 ?l2 ?o2 ?ln ?on ?hm ?hb ?hQ
          case ht => exact Tryz.underlying22
          case hi => exact HI.out
          case hz => exact HZ0.out
          case h1 => exact HZ1.out
          case h2 => exact HZ2.out
          case p0 => simp [go_sem, execOp]
          case pN => (generalize Act.eval a = ρ at h ⊢; simp [go_sem, execOp, h, vI])
          case q1 => exact R1.out
          case l1 => rw [vI_length, L1.out] <;> omega
          case o1 => exact vI_one _
          case q2 => exact R2.out
          case l2 => rw [vI_length, L2.out] <;> omega
          case o2 => exact vI_one _
          case ln => rfl
          case on => exact vI_one _
          case hm => omega
          case hb => omega
          case hQ =>
            intro a' w' A' c' hfr hev how hex
            have e2 : k + 1 + (i - k) = i + 1 := by omega
            rw [e2] at hev how
            obtain ⟨v0, vA, vN, vB, vD, rfl⟩ := hfr.form hev
            rw [← vI_append, ← vI_append, HINS.out] at how
            obtain ⟨g', rfl, _, _⟩ := own_at how (by omega)
            have hbz := bel_trans (bel_trans HB.out HBQ.out) hex
            have HOWN := Lib.hid (own_base how (by have h1 := HB.out.size; have h2 := HBQ.out.size; omega : w.heap.size ≤ _))
            have HBZ := Lib.hid hbz
            clear how hev hfr hbz hex
            refine NoPanic.normal ?_
            simp only [List.setIfInBounds_toArray, List.set_cons_zero, List.set_cons_succ]
            go_wp2_with fail
            exact ⟨⟨i + 1, g', c', _, by omega, by go_num, rfl, HST.out.symm ▸ rfl, HOWN.out, HRN2.out, HBZ.out⟩, by simp [intOf]; omega⟩
    · obtain rfl : i = n := by omega
      have hi1 : ¬ (i : Int) < (i : Int) := by omega
      have HV : Hid (StM.stS keyT L = out) := by show _ = _; rw [HOUT.out, List.take_of_length_le (by rw [HL.out]; exact Nat.le_refl _)]
      go_wp2_with fail
      go_ret
      exact ⟨_, _, _, rfl, by rw [HV.out]; exact HOW.out, HB.out⟩
end Go.Proofs.YtoedmmhiinhljaaGreatDoor

/- Steps of a region that draws its order, with the rest named. -/
namespace Go.Proofs.YtoedmmhiinhljaaGreatDoor
open Go.RowKit
set_option linter.unusedVariables false
section
variable {P : Program} {ops : Array Oper} {md : Region.Mode} {C : World → Prop} {Q : Exit → Act → World → Prop}
theorem rgK_one {f i : Nat} {o : Oper} {listed : Array Bool} {a : Act} {w : World} (hr : Region.ready md ops listed = [i]) (hi : ops[i]? = some o) (hg : o.guard = none)
    (h : ∀ w', C w' → Ext w w' → ∀ K : Act → World → Prop, (∀ a' w'', C w'' → wpRg P md ops C Q f (listed.setIfInBounds i true) a' w'' → K a' w'') → o.wp P a w' K Q) : wpRg P md ops C Q (f + 1) listed a w :=
  rg_one hr hi hg fun w' hc he => h w' hc he _ fun _ _ h1 h2 => ⟨h1, h2⟩
theorem rgK_two {f i k : Nat} {o o2 : Oper} {listed : Array Bool} {a : Act} {w : World} (hr : Region.ready md ops listed = [i, k]) (hi : ops[i]? = some o) (hg : o.guard = none) (hk : ops[k]? = some o2) (hg2 : o2.guard = none)
    (h : ∀ w', C w' → Ext w w' → ∀ K : Act → World → Prop, (∀ a' w'', C w'' → wpRg P md ops C Q f (listed.setIfInBounds i true) a' w'' → K a' w'') → o.wp P a w' K Q)
    (h2 : ∀ w', C w' → Ext w w' → ∀ K : Act → World → Prop, (∀ a' w'', C w'' → wpRg P md ops C Q f (listed.setIfInBounds k true) a' w'' → K a' w'') → o2.wp P a w' K Q) : wpRg P md ops C Q (f + 1) listed a w :=
  rg_two hr hi hg hk hg2 (fun w' hc he => h w' hc he _ fun _ _ h1 h2 => ⟨h1, h2⟩) (fun w' hc he => h2 w' hc he _ fun _ _ h1 h2 => ⟨h1, h2⟩)
/-- An operation whose guard does not hold is taken first. -/
theorem rgS {i d : Nat} {oi : Oper} {f : Nat} {listed : Array Bool} {ts : Array Value} {ds : List Deferred} {w w0 : World} (hi : ops[i]? = some oi) (hd : oi.dst = some d)
    (hs : Region.noSelect ops = true) (hf : Region.free .any ops listed i = true) (hr : (Region.ready .any ops listed).contains i = true) (hw : Region.wanted oi (yielded ops ts) = false)
    (h : wpRg P .any ops (ExC w0) (NoPanic Q) f (listed.setIfInBounds i true) { tmps := ts.setIfInBounds d undef, defers := ds } w) : wpRg P .any ops (ExC w0) (NoPanic Q) (f + 1) listed { tmps := ts, defers := ds } w :=
  wpRg_first (v := undef) (fun _ _ h k => h.ext k) hi (Region.noSelect_spec hs) (fun _ _ _ h => h) f listed _ w (Region.free_spec hi hf) (by simpa using hr) (.inr ⟨hw, rfl⟩) (by rw [hd]; exact h)
end
end Go.Proofs.YtoedmmhiinhljaaGreatDoor

/- A tiling turned: the reference's TurnTiling. -/
namespace Go.Proofs.YtoedmmhiinhljaaGreatDoor
open Go.RowKit
set_option linter.unusedVariables false
attribute [local go_sem ↓] Go.wp_at_zero Go.wp_at_succ


set_option maxRecDepth 100000 in
set_option maxHeartbeats 6400000 in
theorem TurnTiling_s (W : Int) (A : Option Addr) (n c : Nat) (D : Option Addr) (k cd : Nat) (rows l : List Int) (m : Int) (w : World) (hr : Rd w A (vI rows)) (hl : rows.length = n) (hrI : Rd w D (vI l)) (hlI : l.length = k) (hx : ∀ x ∈ l, x < 9223372036854775808) (hk : k ≤ 1048576) :
    Calls Tryz.prog 22 #[.agg #[.int .i64 W, .slice A n c], .slice D k cd, .int .i64 m] w (RetS2 w 3 1 (vI (ttV W rows l m)) (.bool (ttOk W rows l m))) := by
  have HL := Lib.hid hl
  have HR := Lib.hid hr
  have HRI := Lib.hid hrI
  have HLI := Lib.hid hlI
  have HX := Lib.hid hx
  have hml := motV_len W rows
  have HB0 := Lib.hid ((Blk.new w 29 #[.int .i64 W, .slice A n c]).alloc (.cells #[] 3))
  have ho0 := own_blk (cs := #[]) (Blk.new (w.alloc (.cells #[.int .i64 W, .slice A n c] 29)) 3 #[]) (base := w.heap.size + 1) (size := 1) (n := 0) rfl (by simp) (Nat.zero_le _)
  rw [World.size_alloc] at ho0
  have HO0 := Lib.hid ho0
  have HBEL0 := Lib.hid (bel_alloc (bel_alloc (Below.refl w.heap.size w) (.cells #[.int .i64 W, .slice A n c] 29)) (.cells #[] 3))
  clear hr hl hrI hlI hx ho0
  go_enter Tryz.func22, Tryz.ntmps22
  go_wp2_with fail
  go_loopw [9, 8] (fun e9 e8 wr => ∃ (i g co : Nat), i ≤ k ∧ e9 = .int .i64 i ∧ e8 = .slice (some ⟨g, 0, none⟩) i co ∧ wr.ownsRow (w.heap.size + 1) 3 1 (.slice (some ⟨g, 0, none⟩) i co) i (vI ((l.take i).map fun x => tmV W rows x m)) ∧ (∀ x ∈ l.take i, tmOk W rows x m = true) ∧ Blk wr w.heap.size 29 #[.int .i64 W, .slice A n c] ∧ Below w.heap.size w wr) (fun e9 _ _ => k - (intOf e9).toNat)
  case atStart => exact ⟨0, w.heap.size + 1, 0, Nat.zero_le _, rfl, by simp, by simpa [vI] using HO0.out, (fun x h => by simp at h), HB0.out, HBEL0.out⟩
  case round =>
    obtain ⟨i, g, co, hik, rfl, rfl, hown, hall, hbox, hb⟩ := hrel
    have HOW := Lib.hid hown
    have HALL := Lib.hid hall
    have HBX := Lib.hid hbox
    have HB := Lib.hid hb
    have b0 : wr.cell? ⟨w.heap.size, 0, none⟩ = some (.int .i64 W) := by simpa using hbox.cell 0
    have b1 : wr.cell? ⟨w.heap.size, 1, none⟩ = some (.slice A n c) := by simpa using hbox.cell 1
    have bl := hbox.lt
    clear hown hall hbox hb
    by_cases hlt : i < k
    · have hi0 : (0 : Int) ≤ (i : Int) := by omega
      have hi1 : (i : Int) < (k : Int) := by omega
      have hil : i < l.length := by rw [HLI.out]; exact hlt
      obtain ⟨gl, off, hA, hgl2, d1⟩ := RdI.at_ (HRI.out.below HB.out) hil
      have hmap := map_take_succ (fun x => tmV W rows x m) hil
      have hals := fun h2 => all_take_succ (P := fun x => tmOk W rows x m = true) hil HALL.out h2
      obtain ⟨x, hx⟩ : ∃ x, l[i] = x := ⟨_, rfl⟩
      have hxm : x ∈ l := by rw [← hx]; exact List.getElem_mem hil
      rw [hx] at d1 hmap hals
      have HMAP := Lib.hid hmap
      have HALS := Lib.hid hals
      have HXM := Lib.hid hxm
      have hx63 := HX.out x hxm
      have HTM : Hid (∀ w', Below wr.heap.size wr w' → Calls Tryz.prog 41 #[.agg #[.int .i64 W, .slice A n c], .int .i64 x, .int .i64 m] w' (Ret w' (.tuple #[.int .i64 (tmV W rows x m), .bool (tmOk W rows x m)]))) := fun w' hb' => TurnMask_s W A n c rows x m w' ((HR.out.below HB.out).below hb') HL.out hx63
      obtain ⟨tv, htv⟩ : ∃ tv, tmV W rows x m = tv := ⟨_, rfl⟩
      obtain ⟨tk, htk⟩ : ∃ tk, tmOk W rows x m = tk := ⟨_, rfl⟩
      rw [htv, htk] at HTM
      rw [htv] at HMAP
      have HTK := Lib.hid htk
      clear hx hxm hx63 hil hmap hals htv htk
      subst hA
      cases tk with
      | false =>
        have HTO : Hid (ttOk W rows l m = false) := ttOk_no HXM.out HTK.out
        have HTV : Hid (ttV W rows l m = []) := ttV_no HTO.out
        go_wp2_with fail
        (refine wp_region_below (by kernel_rfl) (by kernel_rfl) ?_; (repeat (first | go_big_quiet_skip | (refine quietV (v := ?_) (by rfl) rfl (fun w' hbw => ?_) ?_; rotate_left; ((try dsimp only at hbw); have hbc := (bcell hbw).1; have hbf := (bcell hbw).2; go_simp; first | done | with_reducible rfl | (with_reducible exact callsB (v := .tuple #[.int .i64 tv, .bool false]) (HTM.out _ hbw) hbw)); simp only [List.setIfInBounds_toArray, List.set_cons_zero, List.set_cons_succ]))); refine wpQuiet_nil ?_; intro w2 hb2)
        have hbz := bel_trans HB.out hb2
        have HBZ := Lib.hid (bel_alloc hbz (.cells #[] 3))
        have HOZ := Lib.hid (own_blk (cs := #[]) (Blk.new w2 3 #[]) (base := w.heap.size) (size := 1) (n := 0) rfl hbz.size (Nat.zero_le _))
        clear hbz hb2
        go_wp2_with fail
        go_ret2
        exact ⟨_, _, _, by rw [HTO.out]; rfl, by rw [HTV.out]; exact HOZ.out, HBZ.out⟩
      | true =>
        have HAL2 := Lib.hid (HALS.out HTK.out)
        go_wp2_with fail
        (refine wp_region_below (by kernel_rfl) (by kernel_rfl) ?_; (repeat (first | go_big_quiet_skip | (refine quietV (v := ?_) (by rfl) rfl (fun w' hbw => ?_) ?_; rotate_left; ((try dsimp only at hbw); have hbc := (bcell hbw).1; have hbf := (bcell hbw).2; go_simp; first | done | with_reducible rfl | (with_reducible exact callsB (v := .tuple #[.int .i64 tv, .bool true]) (HTM.out _ hbw) hbw)); simp only [List.setIfInBounds_toArray, List.set_cons_zero, List.set_cons_succ]))); refine wpQuiet_nil ?_; intro w2 hb2)
        have HB2 := Lib.hid hb2
        clear hb2
        go_wp2_with (at_builtin; go_must (refine app_I _ rfl _ _ rfl (w.heap.size + 1) _ _ _ _ rfl ((own_keep HOW.out HB2.out).alloc _) _ _ _ [tv] rfl (rd_newI _ _ _) rfl (by omega) (by have h1 := HB.out.size; have h2 := HB2.out.size; simp; omega) ?_); intro D6 c6 w6 ho6 hg6 hat6; have HO6 := Lib.hid ho6; have HG6 := Lib.hid hg6; clear ho6 hg6 hat6)
        have hgl := own_lt HOW.out g rfl
        have hb6 : Below w.heap.size w w6 := bel_app (bel_alloc (bel_trans HB.out HB2.out) _) HG6.out (fun g9 e9 => by simp only [ob, Option.map_some, Option.some.injEq] at e9; omega)
        have HB6 := Lib.hid hb6
        have HBX6 := Lib.hid (((HBX.out.below HB2.out).alloc (.cells #[.int .i64 tv] 3)).grown HG6.out (fun e => by simp only [ob, Option.map_some, Option.some.injEq] at e; omega))
        obtain ⟨g6, hg6, _, _⟩ := own_at HO6.out (by omega)
        subst hg6
        have HOV : Hid (w6.ownsRow (w.heap.size + 1) 3 1 (.slice (some ⟨g6, 0, none⟩) (i + 1) c6) (i + 1) (vI ((l.take (i + 1)).map fun x => tmV W rows x m))) := by
          show World.ownsRow _ _ _ _ _ _ _
          rw [HMAP.out]
          exact HO6.out
        clear hb6 hgl
        go_wp2_with fail
        exact ⟨⟨i + 1, g6, c6, by omega, by go_num, rfl, HOV.out, HAL2.out, HBX6.out, HB6.out⟩, by simp [intOf]; omega⟩
    · obtain rfl : i = k := by omega
      have hi1 : ¬ (i : Int) < (i : Int) := by omega
      have htl : l.take i = l := List.take_of_length_le (by rw [HLI.out]; exact Nat.le_refl _)
      have hall := HALL.out
      have hown := HOW.out
      rw [htl] at hall hown
      obtain ⟨hv, ho⟩ := ttV_all hall
      obtain ⟨M, hM⟩ : ∃ M, l.map (fun x => tmV W rows x m) = M := ⟨_, rfl⟩
      rw [hM] at hv hown
      have hMl : M.length = i := by rw [← hM, List.length_map, HLI.out]
      have hMr : ∀ x ∈ M, 0 ≤ x ∧ x < 2 ^ 62 := fun x hx => by
        rw [← hM] at hx
        obtain ⟨y, _, rfl⟩ := List.mem_map.1 hx
        exact tmV_lt
      obtain ⟨an, han⟩ : ∃ an, (motV W rows).any (· == m) = an := ⟨_, rfl⟩
      rw [han] at ho
      have HTV := Lib.hid hv
      have HTO := Lib.hid ho
      have HAN := Lib.hid han
      have HCS : Hid (∀ u, Below wr.heap.size wr u → Calls Tryz.prog 42 #[.slice (some ⟨g, 0, none⟩) i co] u (RetS u 3 1 (vI (StM.stS keyT M)))) := fun u hu => l23Sort_s _ i co M u (Rd.of_own (own_keep hown hu)) hMl (by omega) hMr
      have HRR : Hid (∀ u, Below wr.heap.size wr u → Rd u A (vI rows)) := fun u hu => (HR.out.below HB.out).below hu
      clear htl hall hown hv ho hM hMl hMr han
      go_wp2_with fail
      refine wp_region_rg 8 rfl (by kernel_rfl) ?_
      (refine rgT (i := 0) (v := ?_) rfl rfl (by kernel_rfl) (by kernel_rfl) (by kernel_rfl) (by rfl) (fun w' hcw => ?_) ?_; rotate_left; ((try dsimp only at hcw); have hbc := hcw.cells; go_simp; first | done | with_reducible rfl); simp only [List.setIfInBounds_toArray, List.set_cons_zero, List.set_cons_succ])
      (refine rgT (i := 2) (v := ?_) rfl rfl (by kernel_rfl) (by kernel_rfl) (by kernel_rfl) (by rfl) (fun w' hcw => ?_) ?_; rotate_left; ((try dsimp only at hcw); have hbc := hcw.cells; go_simp; first | done | with_reducible rfl); simp only [List.setIfInBounds_toArray, List.set_cons_zero, List.set_cons_succ])
      (refine rgT (i := 4) (v := ?_) rfl rfl (by kernel_rfl) (by kernel_rfl) (by kernel_rfl) (by rfl) (fun w' hcw => ?_) ?_; rotate_left; ((try dsimp only at hcw); have hbc := hcw.cells; go_simp; first | done | with_reducible rfl); simp only [List.setIfInBounds_toArray, List.set_cons_zero, List.set_cons_succ])
      refine rgK_one (i := 1) (by kernel_rfl) rfl rfl (fun u1 hc1 he1 K hK => ?_)
      go_simp
      refine (HCS.out _ hc1).mono ?_
      rintro e v1 ⟨G, qG, cG, rfl, hO, hbS⟩
      refine hK _ _ (bel_trans hc1 hbS) ?_
      clear hK K
      have HOG := Lib.hid (own_base hO hc1.size)
      have HBS := Lib.hid hbS
      clear hO hbS
      refine rgK_one (i := 3) (by kernel_rfl) rfl rfl (fun u3 hc3 he3 K hK => ?_)
      go_simp
      refine (RegionMotions_s W A n c rows _ (HRR.out _ hc3) HL.out).mono ?_
      rintro e v3 ⟨B, q, cq, rfl, hOm, hbR⟩
      have HQ := Lib.hid (by have := own_len hOm; rw [vI_length] at this; omega : (motV W rows).length = q)
      have HRB := Lib.hid (Rd.of_own hOm)
      refine hK _ _ (bel_trans hc3 hbR) ?_
      clear hK K hOm
      refine rgK_one (i := 5) (by kernel_rfl) rfl rfl (fun u5 hc5 he5 K hK => ?_)
      go_simp
      refine (l7Has_s B q cq _ m _ (HRB.out.below he5) HQ.out (by have := HQ.out; omega)).mono ?_
      rw [HAN.out]
      rintro e v5 ⟨rfl, hbH⟩
      refine hK _ _ (bel_trans hc5 hbH) ?_
      clear hK K
      (refine rgT (i := 6) (v := ?_) rfl rfl (by kernel_rfl) (by kernel_rfl) (by kernel_rfl) (by rfl) (fun w' hcw => ?_) ?_; rotate_left; ((try dsimp only at hcw); have hbc := hcw.cells; go_simp; first | done | with_reducible rfl); simp only [List.setIfInBounds_toArray, List.set_cons_zero, List.set_cons_succ])
      (refine rgT (i := 7) (v := ?_) rfl rfl (by kernel_rfl) (by kernel_rfl) (by kernel_rfl) (by rfl) (fun w' hcw => ?_) ?_; rotate_left; ((try dsimp only at hcw); have hbc := hcw.cells; go_simp; first | done | with_reducible rfl); simp only [List.setIfInBounds_toArray, List.set_cons_zero, List.set_cons_succ])
      refine ⟨by kernel_rfl, fun wz hcz hez => NoPanic.normal ?_⟩
      have HOZ := Lib.hid (own_base (own_keep HOG.out (bel_trans he3 (bel_trans hbR (bel_trans he5 (bel_trans hbH hez))))) HB.out.size)
      have HBZ := Lib.hid (bel_trans HB.out hcz)
      clear hcz hez
      go_wp2_with fail
      go_ret2
      exact ⟨G, qG, cG, by rw [HTO.out]; rfl, by rw [HTV.out]; exact HOZ.out, HBZ.out⟩
end Go.Proofs.YtoedmmhiinhljaaGreatDoor

/- Headers of rows that are only read; two slices that grow side by side. -/
namespace Go.Proofs.YtoedmmhiinhljaaGreatDoor
open Go.RowKit
set_option linter.unusedVariables false
/-- The rows behind some headers read as lists of integers, none of them empty. -/
structure RowsH (w : World) (hs : List H) (F : List (List Int)) : Prop where
  len : hs.length = F.length
  at_ : ∀ k (a : k < hs.length) (b : k < F.length), hs[k].2.1 = F[k].length ∧ 0 < F[k].length ∧ Rd w hs[k].1 (vI F[k])
def away (hs : List H) (g : Nat) : Prop := ∀ h ∈ hs, ob h.1 ≠ some g
section
variable {w w' : World} {hs : List H} {F : List (List Int)}
theorem Rd.blk {A : Option Addr} {f : List Int} (h : Rd w A (vI f)) (hp : 0 < f.length) : ∃ g, ob A = some g ∧ g < w.heap.size := by
  obtain ⟨g, off, rfl, hg, _⟩ := RdI.at_ h hp
  exact ⟨g, rfl, hg⟩
theorem RowsH.nil (w : World) : RowsH w [] [] := ⟨rfl, fun k h => by simp at h⟩
theorem RowsH.below (h : RowsH w hs F) (hb : Below w.heap.size w w') : RowsH w' hs F := ⟨h.len, fun k a b => ⟨(h.at_ k a b).1, (h.at_ k a b).2.1, (h.at_ k a b).2.2.below hb⟩⟩
theorem RowsH.lt (h : RowsH w hs F) : ∀ x ∈ hs, ∃ g, ob x.1 = some g ∧ g < w.heap.size := by
  intro x hx
  obtain ⟨k, hk, rfl⟩ := List.mem_iff_getElem.1 hx
  have := h.at_ k hk (by rw [← h.len]; exact hk)
  exact this.2.2.blk this.2.1
theorem RowsH.grown {row : Option Nat} (h : RowsH w hs F) (hg : w.grownBy w' row) (hn : ∀ g, row = some g → away hs g) : RowsH w' hs F :=
  ⟨h.len, fun k a b => ⟨(h.at_ k a b).1, (h.at_ k a b).2.1, (h.at_ k a b).2.2.grown hg fun g he e => hn g e.symm _ (List.getElem_mem a) he⟩⟩
theorem RowsH.push (h : RowsH w hs F) {A : Option Addr} {n c : Nat} {f : List Int} (hr : Rd w A (vI f)) (hn : n = f.length) (hp : 0 < f.length) : RowsH w (hs ++ [(A, n, c)]) (F ++ [f]) := by
  refine ⟨by simp [h.len], fun k a b => ?_⟩
  by_cases hk : k < hs.length
  · simp only [List.getElem_append_left hk, List.getElem_append_left (h.len ▸ hk : k < F.length)]
    exact h.at_ k hk _
  · have e : k = hs.length := by simp at a; omega
    subst e
    simp only [List.getElem_append_right (Nat.le_refl _), List.getElem_append_right (Nat.le_of_eq h.len.symm), Nat.sub_self]
    exact ⟨by simpa [h.len] using hn, by simpa [h.len] using hp, by simpa [h.len] using hr⟩
theorem away_push {g : Nat} {h : H} (ha : away hs g) (h1 : ob h.1 ≠ some g) : away (hs ++ [h]) g := by
  intro x hx
  rcases List.mem_append.1 hx with hx | hx
  · exact ha x hx
  · simp only [List.mem_singleton] at hx; rw [hx]; exact h1
theorem RowsH.away_new (h : RowsH w hs F) {g : Nat} (hg : w.heap.size ≤ g) : away hs g := by
  intro x hx e
  obtain ⟨g', h1, h2⟩ := h.lt x hx
  rw [h1] at e
  injection e with e
  omega
end
/-- Two slices of the call's own that grow, a row of headers and their rows, a block beside them. -/
structure Two (base g0 : Nat) (t1 s1 : Nat) (vs : List Value) (A : Option Addr) (n c : Nat) (B : Option Addr) (c2 : Nat) (hs : List H) (F : List (List Int)) (cells : Array Value) (w : World) : Prop where
  own1 : w.ownsRow base t1 s1 (.slice A n c) n vs
  own2 : w.ownsRow base 22 1 (.slice B n c2) n (vS hs)
  rows : RowsH w hs F
  beside : Blk w g0 3 cells
  sepA : ∀ g, ob A = some g → ob B ≠ some g ∧ away hs g ∧ g ≠ g0
  sepB : ∀ g, ob B = some g → away hs g ∧ g ≠ g0
theorem Two.below {base g0 t1 s1 : Nat} {vs : List Value} {A : Option Addr} {n c : Nat} {B : Option Addr} {c2 : Nat} {hs : List H} {F : List (List Int)} {cells : Array Value} {w w' : World}
    (h : Two base g0 t1 s1 vs A n c B c2 hs F cells w) (hb : Below w.heap.size w w') : Two base g0 t1 s1 vs A n c B c2 hs F cells w' :=
  ⟨own_keep h.own1 hb, own_keep h.own2 hb, h.rows.below hb, h.beside.below hb, h.sepA, h.sepB⟩
theorem Two.push {base g0 t1 s1 : Nat} {vs vs' : List Value} {A A' : Option Addr} {n c c' : Nat} {B B' : Option Addr} {c2 c2' : Nat} {hs : List H} {F : List (List Int)} {cells : Array Value} {w1 w2 w2' w3 : World}
    {D : Option Addr} {cf : Nat} {f : List Int} {o1 : Obj}
    (h : Two base g0 t1 s1 vs A n c B c2 hs F cells w1) (hf : Rd w1 D (vI f)) {nf : Nat} (hn : nf = f.length) (hp : 0 < f.length) (hfd : ∀ g, ob D = some g → ob A ≠ some g ∧ ob B ≠ some g)
    (ho1 : w2.ownsRow base t1 s1 (.slice A' (n + 1) c') (n + 1) vs') (hg1 : (w1.alloc o1).grownBy w2 (ob A)) (ha1 : ob A' = ob A ∨ ob A' = some (w1.alloc o1).heap.size)
    (hm : Below w2.heap.size w2 w2')
    (ho2 : w3.ownsRow base 22 1 (.slice B' (n + 1) c2') (n + 1) (vS (hs ++ [(D, nf, cf)]))) (hg2 : w2'.grownBy w3 (ob B)) (ha2 : ob B' = ob B ∨ ob B' = some w2'.heap.size) :
    Two base g0 t1 s1 vs' A' (n + 1) c' B' c2' (hs ++ [(D, nf, cf)]) (F ++ [f]) cells w3 := by
  obtain ⟨gf, hgf, hgl⟩ := hf.blk hp
  obtain ⟨hfa, hfb⟩ := hfd gf hgf
  have hz1 : (w1.alloc o1).heap.size = w1.heap.size + 1 := by simp
  have hz2 := hg1.size
  have hz3 := hm.size
  have hz4 := hg2.size
  rw [hz1] at ha1 hz2
  have hbl := h.beside.lt
  -- the blocks that were there
  have hAnew : ∀ g, ob A' = some g → ob A = some g ∨ g = w1.heap.size + 1 := fun g e => by
    rcases ha1 with h1 | h1
    · exact .inl (h1 ▸ e)
    · rw [h1] at e; injection e with e; exact .inr e.symm
  have hBnew : ∀ g, ob B' = some g → ob B = some g ∨ g = w2'.heap.size := fun g e => by
    rcases ha2 with h1 | h1
    · exact .inl (h1 ▸ e)
    · rw [h1] at e; injection e with e; exact .inr e.symm
  have hAlt := own_lt h.own1
  have hBlt := own_lt h.own2
  have r1 : RowsH w2 hs F := (h.rows.below (Below.alloc (Below.refl _ _) (Nat.le_refl _) o1)).grown hg1 fun g e => (h.sepA g e).2.1
  have f1 : Rd w2 D (vI f) := (hf.alloc o1).grown hg1 fun g he e => by rw [hgf] at he; injection he with he; subst he; exact hfa e.symm
  have k1 : Blk w2 g0 3 cells := (h.beside.alloc o1).grown hg1 fun e => (h.sepA g0 e.symm).2.2 rfl
  have r2 : RowsH w3 hs F := (r1.below hm).grown hg2 fun g e => (h.sepB g e).1
  have f2 : Rd w3 D (vI f) := (f1.below hm).grown hg2 fun g he e => by rw [hgf] at he; injection he with he; subst he; exact hfb e.symm
  have k2 : Blk w3 g0 3 cells := (k1.below hm).grown hg2 fun e => (h.sepB g0 e.symm).2 rfl
  have o1' : w3.ownsRow base t1 s1 (.slice A' (n + 1) c') (n + 1) vs' := (own_keep ho1 hm).kept hg2 (by
    rw [ownBlock_slice]
    cases hA : ob A' with
    | none => exact .inl rfl
    | some g =>
      right
      intro e
      rcases hAnew g hA with h1 | h1
      · exact (h.sepA g h1).1 e.symm
      · have := (hBlt g e.symm).2; omega)
  refine ⟨o1', ho2, r2.push f2 hn hp, k2, fun g hg => ?_, fun g hg => ?_⟩
  · rcases hAnew g hg with h1 | h1
    · obtain ⟨s1, s2, s3⟩ := h.sepA g h1
      refine ⟨fun e => ?_, away_push s2 (fun e => by rw [hgf] at e; injection e with e; subst e; exact hfa h1), s3⟩
      rcases hBnew g e with h2 | h2
      · exact s1 h2
      · have := (hAlt g h1).2; omega
    · refine ⟨fun e => ?_, away_push (h.rows.away_new (by omega)) (fun e => by rw [hgf] at e; injection e with e; omega), by omega⟩
      rcases hBnew g e with h2 | h2
      · have := (hBlt g h2).2; omega
      · have := (own_lt ho1 g hg).2; omega
  · rcases hBnew g hg with h1 | h1
    · obtain ⟨s2, s3⟩ := h.sepB g h1
      exact ⟨away_push s2 (fun e => by rw [hgf] at e; injection e with e; subst e; exact hfb h1), s3⟩
    · exact ⟨away_push (h.rows.away_new (by omega)) (fun e => by rw [hgf] at e; injection e with e; omega), by omega⟩
end Go.Proofs.YtoedmmhiinhljaaGreatDoor

/- Slices of slices of integers, all of it the call's own: made, kept, marked. -/
namespace Go.Proofs.YtoedmmhiinhljaaGreatDoor
open Go.RowKit
set_option linter.unusedVariables false
structure Own2 (base : Nat) (w : World) (B : Option Addr) (n c : Nat) (hs : List H) (F : List (List Int)) : Prop where
  own : w.ownsRow base 22 1 (.slice B n c) n (vS hs)
  len : hs.length = F.length
  row : ∀ k (a : k < hs.length) (b : k < F.length), w.ownsRow base 3 1 (.slice hs[k].1 hs[k].2.1 hs[k].2.2) hs[k].2.1 (vI F[k])
  off : ∀ g, ob B = some g → away hs g
  sep : ∀ i j (a : i < hs.length) (b : j < hs.length), i ≠ j → ∀ g, ob hs[i].1 = some g → ob hs[j].1 ≠ some g
/-- A result that is a slice of slices of the call's own. -/
def RetO2 (w : World) (F : List (List Int)) (e : Ending) (w' : World) : Prop :=
  ∃ A n c hs, e = .returned (.slice A n c) ∧ Own2 w.heap.size w' A n c hs F ∧ Below w.heap.size w w'
section
variable {base : Nat} {w w' : World} {B : Option Addr} {n c : Nat} {hs : List H} {F : List (List Int)}
theorem Own2.nil (base : Nat) (w : World) : Own2 base w none 0 0 [] [] :=
  ⟨own_nil _ _ _ _, rfl, fun k a => by simp at a, fun g h => by simp [ob] at h, fun i j a => by simp at a⟩
theorem Own2.none_ (h : w.ownsRow base 22 1 (.slice B 0 c) 0 []) : Own2 base w B 0 c [] [] :=
  ⟨h, rfl, fun k a => by simp at a, fun g _ x hx => by simp at hx, fun i j a => by simp at a⟩
theorem Own2.hlen (h : Own2 base w B n c hs F) : hs.length = n := by have := own_len h.own; rw [vS_length] at this; omega
theorem Own2.flen (h : Own2 base w B n c hs F) : F.length = n := h.len ▸ h.hlen
theorem Own2.rlen (h : Own2 base w B n c hs F) {k : Nat} (a : k < hs.length) (b : k < F.length) : F[k].length = hs[k].2.1 := by have := own_len (h.row k a b); rw [vI_length] at this; omega
theorem Own2.below (h : Own2 base w B n c hs F) (hb : Below w.heap.size w w') : Own2 base w' B n c hs F :=
  ⟨own_keep h.own hb, h.len, fun k a b => own_keep (h.row k a b) hb, h.off, h.sep⟩
theorem own_mono2 {base' e size : Nat} {A : Option Addr} {xs : List Value} (h : w.ownsRow base e size (.slice A n c) n xs) (hb : base' ≤ base) : w.ownsRow base' e size (.slice A n c) n xs := by
  refine ⟨h.1, ?_⟩
  rcases h.2 with hn | ⟨g, cap, cur, hv, hg, hgg, rest⟩
  · exact .inl hn
  · exact .inr ⟨g, cap, cur, hv, Nat.le_trans hb hg, hgg, rest⟩
theorem Own2.mono {base' : Nat} (h : Own2 base w B n c hs F) (hb : base' ≤ base) : Own2 base' w B n c hs F :=
  ⟨own_mono2 h.own hb, h.len, fun k a b => own_mono2 (h.row k a b) hb, h.off, h.sep⟩
theorem own_kept {e size : Nat} {A : Option Addr} {xs : List Value} {row : Option Nat} (h : w.ownsRow base e size (.slice A n c) n xs) (hg : w.grownBy w' row) (hn : ∀ g, ob A = some g → row ≠ some g) : w'.ownsRow base e size (.slice A n c) n xs :=
  h.kept hg (by
    rw [ownBlock_slice]
    cases hA : ob A with
    | none => exact .inl rfl
    | some g => right; intro e; exact hn g hA e.symm)
theorem Own2.grown {row : Option Nat} (h : Own2 base w B n c hs F) (hg : w.grownBy w' row) (hn : ∀ g, row = some g → g < base) : Own2 base w' B n c hs F :=
  ⟨own_kept h.own hg fun g e r => by have := (own_lt h.own g e).1; have := hn g r; omega, h.len,
   fun k a b => own_kept (h.row k a b) hg fun g e r => by have := (own_lt (h.row k a b) g e).1; have := hn g r; omega, h.off, h.sep⟩
theorem Own2.at_ (h : Own2 base w B n c hs F) {k : Nat} (a : k < hs.length) : ∃ g off, B = some ⟨g, off, none⟩ ∧ g < w.heap.size ∧ w.cell? ⟨g, off + k, none⟩ = some (.slice hs[k].1 hs[k].2.1 hs[k].2.2) :=
  RdS.at_ (Rd.of_own h.own) a
theorem Own2.rd (h : Own2 base w B n c hs F) {k : Nat} (a : k < hs.length) (b : k < F.length) : Rd w hs[k].1 (vI F[k]) := Rd.of_own (h.row k a b)
/-- One row is written anew. -/
theorem Own2.put (h : Own2 base w B n c hs F) {k : Nat} (a : k < hs.length) (f : List Int) (hr : w'.ownsRow base 3 1 (.slice hs[k].1 hs[k].2.1 hs[k].2.2) hs[k].2.1 (vI f)) (hg : w.grownBy w' (ob hs[k].1)) :
    Own2 base w' B n c hs (F.set k f) := by
  refine ⟨own_kept h.own hg fun g e r => h.off g e _ (List.getElem_mem a) r, by simpa using h.len, fun j a' b' => ?_, h.off, h.sep⟩
  by_cases e : k = j
  · subst e
    rw [List.getElem_set_self]
    exact hr
  · rw [List.getElem_set_ne e]
    exact own_kept (h.row j a' (by simpa using b')) hg fun g e1 r => h.sep k j a a' e g r e1
/-- One row more. -/
theorem Own2.push {w3 : World} {g1 nf cf : Nat} {f : List Int} {B' : Option Addr} {c' : Nat}
    (h : Own2 base w B n c hs F) (hf : w'.ownsRow base 3 1 (.slice (some ⟨g1, 0, none⟩) nf cf) nf (vI f)) (hg1 : w.heap.size ≤ g1) (hb : Below w.heap.size w w')
    (ho : w3.ownsRow base 22 1 (.slice B' (n + 1) c') (n + 1) (vS (hs ++ [(some ⟨g1, 0, none⟩, nf, cf)]))) (hg : w'.grownBy w3 (ob B)) (ha : ob B' = ob B ∨ ob B' = some w'.heap.size) :
    Own2 base w3 B' (n + 1) c' (hs ++ [(some ⟨g1, 0, none⟩, nf, cf)]) (F ++ [f]) := by
  have hB := own_lt h.own
  have hf1 := (own_lt hf g1 rfl).2
  have hsz := hb.size
  have hold : ∀ k (a : k < hs.length) (b : k < F.length) g, ob hs[k].1 = some g → g < w.heap.size := fun k a b g e => (own_lt (h.row k a b) g e).2
  refine ⟨ho, by simp [h.len], fun k a b => ?_, fun g e => ?_, ?_⟩
  · by_cases hk : k < hs.length
    · have hk2 : k < F.length := h.len ▸ hk
      simp only [List.getElem_append_left hk, List.getElem_append_left hk2]
      exact own_kept (own_keep (h.row k hk hk2) hb) hg fun g e r => h.off g r _ (List.getElem_mem hk) e
    · have e : k = hs.length := by simp at a; omega
      subst e
      have e3 : (hs ++ [((some ⟨g1, 0, none⟩, nf, cf) : H)])[hs.length]'a = (some ⟨g1, 0, none⟩, nf, cf) := by simp
      have e4 : (F ++ [f])[hs.length]'b = f := by rw [List.getElem_append_right (Nat.le_of_eq h.len.symm)]; simp
      rw [e3, e4]
      exact own_kept hf hg fun g e r => by simp only [ob, Option.map_some, Option.some.injEq] at e; subst e; have := (hB _ r).2; omega
  · intro x hx
    rcases List.mem_append.1 hx with hx | hx
    · rcases ha with h1 | h1
      · exact h.off g (h1 ▸ e) x hx
      · rw [h1] at e
        injection e with e
        intro r
        obtain ⟨k, hk, rfl⟩ := List.mem_iff_getElem.1 hx
        have := hold k hk (h.len ▸ hk) g r
        omega
    · simp only [List.mem_singleton] at hx
      subst hx
      intro r
      simp only [ob, Option.map_some, Option.some.injEq] at r
      subst r
      rcases ha with h1 | h1
      · rw [h1] at e
        have := (hB _ e).2
        omega
      · rw [h1] at e
        injection e with e
        omega
  · have hn1 : ∀ i (a : i < hs.length) g, ob hs[i].1 = some g → ob (some (⟨g1, 0, none⟩ : Addr)) ≠ some g := fun i a g e r => by
      simp only [ob, Option.map_some, Option.some.injEq] at r
      subst r
      have := hold i a (h.len ▸ a) _ e
      omega
    intro i j a b hij g e
    by_cases hi : i < hs.length
    · by_cases hj : j < hs.length
      · simp only [List.getElem_append_left hi] at e
        simp only [List.getElem_append_left hj]
        exact h.sep i j hi hj hij g e
      · have ej : j = hs.length := by simp at b; omega
        subst ej
        simp only [List.getElem_append_left hi] at e
        simp only [List.getElem_append_right (Nat.le_refl _), Nat.sub_self, List.getElem_cons_zero]
        exact hn1 i hi g e
    · have ei : i = hs.length := by simp at a; omega
      subst ei
      have hj : j < hs.length := by simp at b; omega
      simp only [List.getElem_append_right (Nat.le_refl _), Nat.sub_self, List.getElem_cons_zero] at e
      simp only [List.getElem_append_left hj]
      exact fun r => hn1 j hj g r e
end
def total (F : List (List Int)) : Nat := (F.map List.length).sum
def markF : Int → List (List Int) → List (List Int)
  | _, [] => []
  | k, f :: t => io k f.length :: markF (k + f.length) t
theorem total_snoc (F : List (List Int)) (f : List Int) : total (F ++ [f]) = total F + f.length := by simp [total]
theorem total_append (F F2 : List (List Int)) : total (F ++ F2) = total F + total F2 := by simp [total]
theorem total_take (F : List (List Int)) (j : Nat) (h : j < F.length) : total (F.take (j + 1)) = total (F.take j) + F[j].length := by rw [List.take_succ_eq_append_getElem h, total_snoc]
theorem total_le (F : List (List Int)) (j : Nat) : total (F.take j) ≤ total F := by
  have := total_append (F.take j) (F.drop j)
  rw [List.take_append_drop] at this
  omega
theorem markF_len : ∀ (k : Int) (F : List (List Int)), (markF k F).length = F.length
  | _, [] => rfl
  | k, f :: t => by simp [markF, markF_len]
theorem markF_snoc : ∀ (k : Int) (F : List (List Int)) (f : List Int), markF k (F ++ [f]) = markF k F ++ [io (k + total F) f.length]
  | k, [], f => by simp [markF, total]
  | k, g :: t, f => by
    simp only [List.cons_append, markF, markF_snoc, total, List.map_cons, List.sum_cons, Int.natCast_add]
    rw [show k + (g.length : Int) + ((t.map List.length).sum : Nat) = k + ((g.length : Int) + ((t.map List.length).sum : Nat)) from by omega]
theorem markF_step (k : Int) (F : List (List Int)) (j : Nat) (h : j < F.length) :
    (markF k (F.take j) ++ F.drop j).set j (io (k + total (F.take j)) F[j].length) = markF k (F.take (j + 1)) ++ F.drop (j + 1) := by
  have hl : (markF k (F.take j)).length = j := by rw [markF_len, List.length_take]; omega
  rw [List.set_append_right _ _ (by omega), hl, Nat.sub_self, List.take_succ_eq_append_getElem h, markF_snoc, List.append_assoc, List.drop_eq_getElem_cons h]
  rfl
theorem markF_get (k : Int) (F : List (List Int)) (j : Nat) (h : j < F.length) : (markF k F)[j]'(by rw [markF_len]; exact h) = io (k + total (F.take j)) F[j].length := by
  have h1 := markF_snoc k (F.take j) F[j]
  rw [← List.take_succ_eq_append_getElem h] at h1
  have h2 : markF k F = markF k (F.take (j + 1)) ++ markF (k + total (F.take (j + 1))) (F.drop (j + 1)) := by
    have : ∀ (F1 : List (List Int)) (k : Int) (F2 : List (List Int)), markF k (F1 ++ F2) = markF k F1 ++ markF (k + total F1) F2 := by
      intro F1
      induction F1 with
      | nil => intro k F2; simp [markF, total]
      | cons g t ih =>
        intro k F2
        simp only [List.cons_append, markF, ih, total, List.map_cons, List.sum_cons, Int.natCast_add]
        rw [show k + (g.length : Int) + ((t.map List.length).sum : Nat) = k + ((g.length : Int) + ((t.map List.length).sum : Nat)) from by omega]
    rw [← this, List.take_append_drop]
  have hl : (markF k (F.take j)).length = j := by rw [markF_len, List.length_take]; omega
  have h3 : (markF k F)[j]? = some (io (k + total (F.take j)) F[j].length) := by
    rw [h2, h1, List.append_assoc, List.getElem?_append_right (by omega), hl, Nat.sub_self]
    rfl
  rw [List.getElem?_eq_getElem (by rw [markF_len]; exact h)] at h3
  injection h3
end Go.Proofs.YtoedmmhiinhljaaGreatDoor

/- Lists of lists of numbers: read; one empty list. -/
namespace Go.Proofs.YtoedmmhiinhljaaGreatDoor
open Go.RowKit
set_option linter.unusedVariables false
/-- A list of lists of ints that can be read. -/
structure Rd2I (w : World) (A : Option Addr) (n : Nat) (hs : List H) (F : List (List Int)) : Prop where
  top : Rd w A (vS hs)
  hlen : hs.length = n
  flen : F.length = n
  row : ∀ k (a : k < hs.length) (b : k < F.length), F[k].length = hs[k].2.1 ∧ Rd w hs[k].1 (vI F[k])
theorem Rd2I.below {w w' : World} {A : Option Addr} {n : Nat} {hs : List H} {F : List (List Int)} (h : Rd2I w A n hs F) (hb : Below w.heap.size w w') : Rd2I w' A n hs F :=
  ⟨h.top.below hb, h.hlen, h.flen, fun k a b => ⟨(h.row k a b).1, (h.row k a b).2.below hb⟩⟩
theorem Rd2I.of_own {base : Nat} {w : World} {A : Option Addr} {n c : Nat} {hs : List H} {F : List (List Int)} (h : Own2 base w A n c hs F) : Rd2I w A n hs F :=
  ⟨Rd.of_own h.own, h.hlen, h.flen, fun k a b => ⟨h.rlen a b, h.rd a b⟩⟩
theorem Rd2I.at_ {w : World} {A : Option Addr} {n : Nat} {hs : List H} {F : List (List Int)} (h : Rd2I w A n hs F) {k : Nat} (hk : k < n) :
    ∃ (x : H) (f : List Int) (g off : Nat), F[k]? = some f ∧ A = some ⟨g, off, none⟩ ∧ g < w.heap.size ∧ w.cell? ⟨g, off + k, none⟩ = some (.slice x.1 x.2.1 x.2.2) ∧ f.length = x.2.1 ∧ Rd w x.1 (vI f) := by
  have a : k < hs.length := by rw [h.hlen]; exact hk
  have b : k < F.length := by rw [h.flen]; exact hk
  obtain ⟨g, off, hA, hg, hc⟩ := RdS.at_ h.top a
  obtain ⟨h1, h2⟩ := h.row k a b
  exact ⟨hs[k], F[k], g, off, List.getElem?_eq_getElem b, hA, hg, hc, h1, h2⟩
theorem Rd2I.at_m {w : World} {A : Option Addr} {n : Nat} {hs : List H} {F : List (List Int)} (h : Rd2I w A n hs F) {k : Nat} (hk : k < n) :
    ∃ (x : H) (f : List Int) (g off : Nat), x ∈ hs ∧ F[k]? = some f ∧ A = some ⟨g, off, none⟩ ∧ g < w.heap.size ∧ w.cell? ⟨g, off + k, none⟩ = some (.slice x.1 x.2.1 x.2.2) ∧ f.length = x.2.1 ∧ Rd w x.1 (vI f) := by
  have a : k < hs.length := by rw [h.hlen]; exact hk
  have b : k < F.length := by rw [h.flen]; exact hk
  obtain ⟨g, off, hA, hg, hc⟩ := RdS.at_ h.top a
  obtain ⟨h1, h2⟩ := h.row k a b
  exact ⟨hs[k], F[k], g, off, List.getElem_mem a, List.getElem?_eq_getElem b, hA, hg, hc, h1, h2⟩
theorem Rd2I.grown {w w' : World} {A : Option Addr} {n : Nat} {hs : List H} {F : List (List Int)} {row : Option Nat} (h : Rd2I w A n hs F) (hg : w.grownBy w' row) (hA : ∀ g, ob A = some g → row ≠ some g) (hr : ∀ x ∈ hs, ∀ g, ob x.1 = some g → row ≠ some g) : Rd2I w' A n hs F :=
  ⟨h.top.grown hg (fun g e r => hA g e r.symm), h.hlen, h.flen, fun k a b => ⟨(h.row k a b).1, (h.row k a b).2.grown hg (fun g e r => hr _ (List.getElem_mem a) g e r.symm)⟩⟩
theorem own2_one (w : World) : Own2 w.heap.size ((w.alloc (.cells #[] 3)).alloc (.cells #[.slice (some ⟨w.heap.size, 0, none⟩) 0 0] 22)) (some ⟨w.heap.size + 1, 0, none⟩) 1 1 [(some ⟨w.heap.size, 0, none⟩, 0, 0)] [[]] := by
  refine ⟨?_, rfl, fun k a b => ?_, fun g e x hx => ?_, fun i j a b hne => ?_⟩
  · have h := own_new (w.alloc (.cells #[] 3)) 22 1 1 #[.slice (some ⟨w.heap.size, 0, none⟩) 0 0] rfl (by simp [maxLen]) (base := w.heap.size) (by simp)
    rw [show (w.alloc (.cells #[] 3)).heap.size = w.heap.size + 1 from by simp] at h
    exact h
  · obtain rfl : k = 0 := by simp at a; omega
    exact (own_new w 3 1 0 #[] rfl (by simp [maxLen]) (Nat.le_refl _)).alloc _
  · simp only [List.mem_singleton] at hx
    subst hx
    intro h2
    simp only [ob, Option.map_some, Option.some.injEq] at e h2
    omega
  · simp at a b
    omega
end Go.Proofs.YtoedmmhiinhljaaGreatDoor

/- A queue: a slice of the call's own that may begin in the middle of its block; taken from at the front, appended to. -/
namespace Go.Proofs.YtoedmmhiinhljaaGreatDoor
open Go.RowKit
set_option linter.unusedVariables false
/-- The slice at cell off of block g, n elements long, owns its row. -/
def World.ownsQ (w : World) (base e size g off n c : Nat) (xs : List Value) : Prop :=
  xs.length = n * size ∧ n ≤ c ∧ c ≤ maxLen ∧ base ≤ g ∧ ∃ cur : Array Value, w.heap[g]? = some (.cells cur e (0, 0)) ∧ off + c * size ≤ cur.size ∧ (cur.toList.drop off).take (n * size) = xs
section
variable {w w' : World} {base e size g off n c : Nat} {xs : List Value}
theorem ownQ_of {A : Option Addr} (h : w.ownsRow base e size (.slice A n c) n xs) (hn : 0 < n) : ∃ g, A = some ⟨g, 0, none⟩ ∧ World.ownsQ w base e size g 0 n c xs := by
  rcases h.2 with ⟨_, rfl⟩ | ⟨g, cap, cur, hv, hb, hg, hnc, hcm, hcs, ht⟩
  · omega
  · injection hv with h1 h2 h3
    subst h1 h3
    exact ⟨g, rfl, h.1, hnc, hcm, hb, cur, hg, by rw [hcs]; omega, by simpa using ht⟩
theorem ownQ_keep (h : World.ownsQ w base e size g off n c xs) (hb : Below w.heap.size w w') : World.ownsQ w' base e size g off n c xs := by
  obtain ⟨h1, h2, h3, h4, cur, hg, h5, h6⟩ := h
  exact ⟨h1, h2, h3, h4, cur, (hb.block g (Array.getElem?_eq_some_iff.1 hg).1).trans hg, h5, h6⟩
theorem ownQ_kept {row : Option Nat} (h : World.ownsQ w base e size g off n c xs) (hb : w.grownBy w' row) (hne : some g ≠ row) : World.ownsQ w' base e size g off n c xs := by
  obtain ⟨h1, h2, h3, h4, cur, hg, h5, h6⟩ := h
  exact ⟨h1, h2, h3, h4, cur, (hb.block g (Array.getElem?_eq_some_iff.1 hg).1 hne).trans hg, h5, h6⟩
theorem ownQ_lt (h : World.ownsQ w base e size g off n c xs) : base ≤ g ∧ g < w.heap.size := by
  obtain ⟨h1, h2, h3, h4, cur, hg, h5, h6⟩ := h
  exact ⟨h4, (Array.getElem?_eq_some_iff.1 hg).1⟩
theorem Rd.of_ownQ (h : World.ownsQ w base e size g off n c xs) : Rd w (some ⟨g, off, none⟩) xs := by
  obtain ⟨h1, h2, h3, h4, cur, hg, h5, h6⟩ := h
  refine .inr ⟨g, off, rfl, fun j u hu => ?_⟩
  rw [cell_of_row w g (off + j) cur e (0, 0) hg]
  rw [← h6, List.getElem?_take] at hu
  split at hu
  · rw [List.getElem?_drop] at hu; simpa using hu
  · cases hu
/-- The front is taken away. -/
theorem ownQ_tail (h : World.ownsQ w base e size g off (n + 1) c xs) : World.ownsQ w base e size g (if c = 1 then off else off + size) n (c - 1) (xs.drop size) := by
  obtain ⟨h1, h2, h3, h4, cur, hg, h5, h6⟩ := h
  refine ⟨by rw [List.length_drop, h1, Nat.add_mul]; omega, by omega, by omega, h4, cur, hg, ?_, ?_⟩
  · split
    · next e => subst e; simp at h5 ⊢; omega
    · obtain ⟨k, rfl⟩ : ∃ k, c = k + 1 := ⟨c - 1, by omega⟩
      simp only [Nat.add_sub_cancel, Nat.add_mul, Nat.one_mul] at h5 ⊢
      omega
  · subst h6
    split
    · next e =>
      have : n = 0 := by omega
      subst this
      simp
    · rw [List.drop_take, List.drop_drop, Nat.add_mul, Nat.one_mul, Nat.add_sub_cancel]
theorem run_append_Q {P : Program} (w : World) {base e size g off n c : Nat} {xs : List Value} (t ty : TypeId) (i : TypeInfo) (z : Value) (bytes : Nat) (ht : P.underlying t = some (.slice e)) (hi : P.info? e = some i) (hz : i.zero = some z)
    (hsize : i.size = size) (hby : i.bytes = bytes) (hzs : z.cells.size = size) (hown : World.ownsQ w base e size g off n c xs)
    (a : Addr) (m c2 : Nat) (news : List Value) (hl : news.length = m * size) (hnews : ∀ j u, news[j]? = some u → w.cell? (a.add j) = some u) (h1 : ∀ u ∈ news, u.oneCell' = true)
    (h63 : n + m ≤ maxLen) (hbytes : (n + m) * bytes ≤ 140737488355328) (hbase : base ≤ w.heap.size) :
    ∃ g' off' c' w', (Builtin.append_ #[t, t] ty #[.slice (some ⟨g, off, none⟩) n c, .slice (some a) m c2]).run P w = .ok (.slice (some ⟨g', off', none⟩) (n + m) c') w' ∧ World.ownsQ w' base e size g' off' (n + m) c' (xs ++ news) ∧ w.grownBy w' (some g) ∧ (g' = g ∨ g' = w.heap.size) := by
  subst hsize hby
  have hrd := Rd.of_ownQ hown
  obtain ⟨hx, hnc, hcm, hbg, cur, hg, hfit, htake⟩ := hown
  have hlen : (xs ++ news).length = (n + m) * i.size := by rw [List.length_append, hx, hl, Nat.add_mul]
  by_cases hroom : n + m ≤ c
  · have hfit2 : off + n * i.size + news.length ≤ cur.size := by
      have : (n + m) * i.size ≤ c * i.size := Nat.mul_le_mul_right _ hroom
      rw [Nat.add_mul] at this
      omega
    have hf := run_firstCells_some (P := P) w i.size m a m c2 news hl hnews
    have hst := run_storeCells_at P g (off + n * i.size) e news 0 cur w hg (by simpa using hfit2) h1
    simp only [Nat.add_zero] at hst
    have hadd : (⟨g, off, none⟩ : Addr).add (n * i.size) = ⟨g, off + n * i.size, none⟩ := by unfold Addr.add; split <;> simp_all
    refine ⟨g, off, c, _, by simp [Builtin.append_, run_underlying ht, sizeOf, typeInfo, hi, Builtin.lenOf, hroom, hf, hadd, hst]; rfl, ⟨hlen, hroom, hcm, hbg, _, setRow_heap w g cur _ e _ hg, ?_, ?_⟩, ⟨rfl, rfl, rfl, by simp, fun k hk hne => setRow_other w g k _ (fun e => hne (by rw [e]))⟩, .inl rfl⟩
    · simp only [List.size_toArray, List.length_append, List.length_take, List.length_drop, Array.length_toList]
      omega
    · have e1 : (cur.toList.take (off + n * i.size)).drop off = xs := by rw [List.drop_take, Nat.add_sub_cancel_left]; exact htake
      have e2 : off ≤ (cur.toList.take (off + n * i.size)).length := by rw [List.length_take, Array.length_toList]; omega
      rw [← hlen]
      simp only []
      rw [List.drop_append_of_le_length e2, e1, ← List.append_assoc]
      exact List.take_left
  · have holds : ∀ j u, xs[j]? = some u → w.cell? ((⟨g, off, none⟩ : Addr).add j) = some u := by
      intro j u hu
      have hadd : (⟨g, off, none⟩ : Addr).add j = ⟨g, off + j, none⟩ := by unfold Addr.add; split <;> simp_all
      rw [hadd]
      rcases hrd with h | ⟨g', off', he, h⟩
      · rw [h] at hu; cases hu
      · injection he with he; injection he with h1 h2; subst h1 h2; exact h j u hu
    have hr := run_append_grow (P := P) w t ty e i z ht hi hz ⟨g, off, none⟩ n c xs hx holds a m c2 news hl hnews (by omega) (by simp only [maxLen] at h63; omega) (growslice_fits (by omega) hbytes)
    have hge := grownCap_ge w (n + m) c e
    have hcm2 : grownCap w (n + m) c e ≤ maxLen := grownCap_le_maxLen w (n + m) c e h63
    refine ⟨_, _, _, _, hr, ⟨hlen, hge, hcm2, hbase, _, heap_alloc_new w.drew _, ?_, ?_⟩, ⟨rfl, rfl, rfl, by simp, fun k hk _ => Below.heap_alloc w.drew _ k hk⟩, .inr rfl⟩
    · simp only [Array.size_append, List.size_toArray, size_zeroCells, hzs, hx, hl, ← Nat.add_mul, Nat.zero_add]
      refine Nat.le_of_eq ?_
      congr 1
      omega
    · simp only [Array.toList_append, List.append_assoc, List.drop_zero]
      rw [← List.append_assoc, ← hlen]
      exact List.take_left
end
section
variable (w : World) {ops : Array Oper} {rest : List Oper} {o : Oper} {a : Act} {Q : Exit → Act → World → Prop}
theorem app_QC (hgd : o.guard = none) (s x : Operand) (ho : o.op = .call { callee := .builtin .append, args := #[s, x], argTypes := #[51, 51] })
    (base g off n c : Nat) (l : List C) (hs : a.eval s = .slice (some ⟨g, off, none⟩) n c) (hown : World.ownsQ w base 66 2 g off n c (vC l))
    (g2 m c2 : Nat) (l2 : List C) (hx : a.eval x = .slice (some ⟨g2, 0, none⟩) m c2) (hr : ∀ j u, (vC l2)[j]? = some u → w.cell? ((⟨g2, 0, none⟩ : Addr).add j) = some u) (hl : l2.length = m) (hb : n + m ≤ 1099511627776) (hbase : base ≤ w.heap.size)
    (h : ∀ g' off' c' w', World.ownsQ w' base 66 2 g' off' (n + m) c' (vC (l ++ l2)) → w.grownBy w' (some g) → (g' = g ∨ g' = w.heap.size) → wpList Tryz.prog ops Q rest (a.put o.dst (.slice (some ⟨g', off', none⟩) (n + m) c')) w') :
    wpList Tryz.prog ops Q (o :: rest) a w := by
  obtain ⟨i0, hi, hz0, hz1, hz2⟩ := info_parts infoC
  refine wpList_plain hgd fun K hK => ?_
  obtain ⟨g', off', c', w', hrun, h2, h3, h4⟩ := run_append_Q (P := Tryz.prog) w 51 o.type i0 _ 16 Tryz.underlying51 hi hz0 hz1 hz2 rfl hown ⟨g2, 0, none⟩ m c2 (vC l2) (by rw [vC_length, hl]) hr (vC_one _) (by unfold maxLen; omega) (by omega) hbase
  rw [← vC_append] at h2
  unfold Oper.wp execOp
  simp only [ho, resolve, invoke, builtin, Sem.run_bind, Sem.run_pure, Result.andThen_ok, List.map_toArray, List.map_cons, List.map_nil, hs, hx, hrun]
  exact hK _ _ (h g' off' c' w' h2 h3 h4)
end
theorem newC_cells (w : World) (t : TypeId) (x y : Int) : ∀ j u, (vC [(x, y)])[j]? = some u → (w.alloc (.cells #[.int .i64 x, .int .i64 y] t)).cell? ((⟨w.heap.size, 0, none⟩ : Addr).add j) = some u := by
  intro j u hu
  have h := rd_newC w t x y
  rcases h with h | ⟨g, off, he, h⟩
  · simp [vC] at h
  · injection he with he; injection he with h1 h2; subst h1 h2
    have := h j u hu
    have hadd : (⟨w.heap.size, 0, none⟩ : Addr).add j = ⟨w.heap.size, 0 + j, none⟩ := by unfold Addr.add; split <;> simp_all
    rw [hadd]; exact this
end Go.Proofs.YtoedmmhiinhljaaGreatDoor

/- The loops of a code. -/
namespace Go.Proofs.YtoedmmhiinhljaaGreatDoor
open Go.RowKit
/-- The loops of a code, the outer ones first. -/
def loopsIn : Code → List Code
  | .loop c => c :: loopsIn c
  | .seq a b => loopsIn a ++ loopsIn b
  | .block _ c => loopsIn c
  | .scope c => loopsIn c
  | .cond _ a b => loopsIn a ++ loopsIn b
  | _ => []
end Go.Proofs.YtoedmmhiinhljaaGreatDoor

/- An append of numbers as one step of a region that draws its order. -/
namespace Go.Proofs.YtoedmmhiinhljaaGreatDoor
open Go.RowKit
set_option linter.unusedVariables false
attribute [local go_sem ↓] Go.wp_at_zero Go.wp_at_succ

section
variable {ops : Array Oper} {o : Oper} {a : Act} {w : World} {K : Act → World → Prop} {Q : Exit → Act → World → Prop} {E : Prop}
/-- An append of numbers as one step of a region that draws. -/
theorem step_appI (hg : o.guard = none) (s x : Operand) (ho : o.op = .call { callee := .builtin .append, args := #[s, x], argTypes := #[22, 22] })
    (base : Nat) (A : Option Addr) (n c : Nat) (l : List Int) (hs : a.eval s = .slice A n c) (hown : w.ownsRow base 3 1 (.slice A n c) n (vI l))
    (A2 : Option Addr) (m c2 : Nat) (l2 : List Int) (hx : a.eval x = .slice A2 m c2) (hr : Rd w A2 (vI l2)) (hl : l2.length = m) (hb : n + m ≤ 1099511627776) (hbase : base ≤ w.heap.size)
    (h : ∀ A' c' w', w'.ownsRow base 3 1 (.slice A' (n + m) c') (n + m) (vI (l ++ l2)) → w.grownBy w' (ob A) → (ob A' = ob A ∨ ob A' = some w.heap.size) → K (a.put o.dst (.slice A' (n + m) c')) w') :
    if Region.wanted o (yielded ops a.tmps) = true then Oper.wp Tryz.prog o a w K Q else E := by
  rw [if_pos (by simp [Region.wanted, hg])]
  obtain ⟨i0, hi, hz0, hz1, hz2⟩ := info_parts infoI
  refine wp_app w s x _ ho base _ i0 _ 1 8 Tryz.underlying22 hi hz0 hz1 hz2 rfl (by omega) A n c _ hs hown A2 m c2 _ hx hr (by rw [vI_length, hl]; omega) (vI_one _) (by unfold maxLen; omega) (by omega) hbase ?_
  intro A' c' w' h1
  rw [← vI_append] at h1
  exact h A' c' w' h1
end
theorem at_or {A D : Option Addr} {n m : Nat} (h : ob A = ob D ∨ ob A = some n) (hmn : m ≤ n) : ob A = ob D ∨ ∀ g, ob A = some g → m ≤ g := by
  rcases h with h | h
  · exact .inl h
  · refine .inr fun g e => ?_
    rw [h] at e
    injection e with e
    omega
end Go.Proofs.YtoedmmhiinhljaaGreatDoor

/- Tilings: the reference's inner loop, which writes the ways behind one mask. -/
namespace Go.Proofs.YtoedmmhiinhljaaGreatDoor
open Go.RowKit
set_option linter.unusedVariables false
attribute [local go_sem ↓] Go.wp_at_zero Go.wp_at_succ

section
variable {ops : Array Oper} {o : Oper} {a : Act} {w : World} {K : Act → World → Prop} {Q : Exit → Act → World → Prop} {E : Prop}
/-- An append of a list as one step of a region that draws. -/
theorem step_appS (hg : o.guard = none) (s x : Operand) (ho : o.op = .call { callee := .builtin .append, args := #[s, x], argTypes := #[45, 45] })
    (base : Nat) (A : Option Addr) (n c : Nat) (l : List H) (hs : a.eval s = .slice A n c) (hown : w.ownsRow base 22 1 (.slice A n c) n (vS l))
    (A2 : Option Addr) (m c2 : Nat) (l2 : List H) (hx : a.eval x = .slice A2 m c2) (hr : Rd w A2 (vS l2)) (hl : l2.length = m) (hb : n + m ≤ 1099511627776) (hbase : base ≤ w.heap.size)
    (h : ∀ A' c' w', w'.ownsRow base 22 1 (.slice A' (n + m) c') (n + m) (vS (l ++ l2)) → w.grownBy w' (ob A) → (ob A' = ob A ∨ ob A' = some w.heap.size) → K (a.put o.dst (.slice A' (n + m) c')) w') :
    if Region.wanted o (yielded ops a.tmps) = true then Oper.wp Tryz.prog o a w K Q else E := by
  rw [if_pos (by simp [Region.wanted, hg])]
  obtain ⟨i0, hi, hz0, hz1, hz2⟩ := info_parts infoS
  refine wp_app w s x _ ho base _ i0 _ 1 24 Tryz.underlying45 hi hz0 hz1 hz2 rfl (by omega) A n c _ hs hown A2 m c2 _ hx hr (by rw [vS_length, hl]; omega) (vS_one _) (by unfold maxLen; omega) (by omega) hbase ?_
  intro A' c' w' h1
  rw [← vS_append] at h1
  exact h A' c' w' h1
end
noncomputable def til8In : Code := ((Tryz.f39.body.map loopsIn).getD []).getD 1 .skip
set_option maxRecDepth 100000 in
set_option maxHeartbeats 3200000 in
theorem l8Inner {Q : Exit → Act → World → Prop} {s1 s2 s3 s4 s5 s6 s8 s12 s13 s14 s15 s16 s17 s18 s19 s20 s21 s22 s23 s24 s25 s26 s27 s28 s29 s30 s31 s32 s33 s34 s35 s36 s37 s38 s39 s40 s41 s42 s43 s44 s45 s46 s47 s48 s49 s50 s51 s52 s53 s54 s55 s56 s57 s58 s59 s60 s61 s62 s63 s64 s65 s66 s67 s68 s69 s70 s71 s72 s73 s74 s75 s76 s77 s78 s79 s80 s81 s82 s83 : Value} {y u cu q cq qa ca i base lo : Nat} {D E AL : Option Addr} {ho hE : List H} {Fi R : List (List Int)} {L : List Int} {w2 : World}
    (hA : Rd w2 AL (vI L)) (hLq : L.length = qa) (hi : i < qa) (hq5 : qa ≤ 1048576) (hLi : L[i]? = some (y : Int))
    (hO : Own2 base w2 D q cq ho Fi) (hR : Rd2I w2 E u hE R) (hRL : ∀ x ∈ R, x.length ≤ 1000) (hu : u ≤ 1000) (hq : q ≤ 1000) (hbase : base ≤ w2.heap.size)
    (hDB : ∀ g, ob D = some g → g < lo) (hEB : ∀ g, ob E = some g → lo ≤ g ∧ g < w2.heap.size) (hEX : ∀ x ∈ hE, ∀ g, ob x.1 = some g → lo ≤ g ∧ g < w2.heap.size) (hAB : ∀ g, ob AL = some g → g < base)
    (hexit : ∀ (v64 v65 v66 v67 v68 v69 v70 v71 v72 v73 v74 v75 v76 v77 v78 v79 v80 v81 v82 : Value) (D3 : Option Addr) (cq3 : Nat) (ho3 : List H) (w3 : World), Own2 base w3 D3 (q + u) cq3 ho3 (Fi ++ R.map ((y : Int) :: ·)) → Below base w2 w3 → Q (.exit 2) ⟨List.toArray ((.slice AL qa ca) :: s1 :: s2 :: s3 :: s4 :: s5 :: s6 :: (.slice D3 (q + u) cq3) :: s8 :: (.int .i64 (i : Int)) :: (.slice E u cu) :: (.int .i64 (u : Int)) :: s12 :: s13 :: s14 :: s15 :: s16 :: s17 :: s18 :: s19 :: s20 :: s21 :: s22 :: s23 :: s24 :: s25 :: s26 :: s27 :: s28 :: s29 :: s30 :: s31 :: s32 :: s33 :: s34 :: s35 :: s36 :: s37 :: s38 :: s39 :: s40 :: s41 :: s42 :: s43 :: s44 :: s45 :: s46 :: s47 :: s48 :: s49 :: s50 :: s51 :: s52 :: s53 :: s54 :: s55 :: s56 :: s57 :: s58 :: s59 :: s60 :: s61 :: s62 :: s63 :: v64 :: v65 :: v66 :: v67 :: v68 :: v69 :: v70 :: v71 :: v72 :: v73 :: v74 :: v75 :: v76 :: v77 :: v78 :: v79 :: v80 :: v81 :: v82 :: s83 :: []), []⟩ w3) :
    Code.wp Tryz.prog (Code.loop til8In) Q ⟨List.toArray ((.slice AL qa ca) :: s1 :: s2 :: s3 :: s4 :: s5 :: s6 :: (.slice D q cq) :: s8 :: (.int .i64 (i : Int)) :: (.slice E u cu) :: (.int .i64 0) :: s12 :: s13 :: s14 :: s15 :: s16 :: s17 :: s18 :: s19 :: s20 :: s21 :: s22 :: s23 :: s24 :: s25 :: s26 :: s27 :: s28 :: s29 :: s30 :: s31 :: s32 :: s33 :: s34 :: s35 :: s36 :: s37 :: s38 :: s39 :: s40 :: s41 :: s42 :: s43 :: s44 :: s45 :: s46 :: s47 :: s48 :: s49 :: s50 :: s51 :: s52 :: s53 :: s54 :: s55 :: s56 :: s57 :: s58 :: s59 :: s60 :: s61 :: s62 :: s63 :: s64 :: s65 :: s66 :: s67 :: s68 :: s69 :: s70 :: s71 :: s72 :: s73 :: s74 :: s75 :: s76 :: s77 :: s78 :: s79 :: s80 :: s81 :: s82 :: s83 :: []), []⟩ w2 := by
  have HO2 := Lib.hid hO
  have HRD := Lib.hid hR
  have HRL := Lib.hid hRL
  have HDB := Lib.hid hDB
  have HEB := Lib.hid hEB
  have HEX := Lib.hid hEX
  have HRU := Lib.hid hR.flen
  have HFI := Lib.hid hO.flen
  have HA := Lib.hid hA
  have HLQ := Lib.hid hLq
  have HLI := Lib.hid hLi
  have HAB := Lib.hid hAB
  have HX := Lib.hid @hexit
  clear hO hR hRL hDB hEB hEX hA hLq hLi hAB hexit
  conv => arg 2; arg 1; whnf
  go_loopw [11, 7] (fun e15 e11 w3 => ∃ (k3 q3 cq3 : Nat) (D3 : Option Addr) (ho3 : List H), k3 ≤ u ∧ q3 = q + k3 ∧ e15 = .int .i64 k3 ∧ e11 = .slice D3 q3 cq3 ∧ Own2 base w3 D3 q3 cq3 ho3 (Fi ++ (R.take k3).map ((y : Int) :: ·)) ∧ Rd2I w3 E u hE R ∧ Rd w3 AL (vI L) ∧ (∀ g, ob D3 = some g → g < lo ∨ w2.heap.size ≤ g) ∧ Below base w2 w3) (fun e15 _ _ => u - (intOf e15).toNat)
  case atStart => exact ⟨0, q, cq, D, ho, Nat.zero_le _, rfl, rfl, rfl, by simpa using HO2.out, HRD.out, HA.out, fun g hg => .inl (HDB.out g hg), Below.refl _ _⟩
  case round =>
    clear HRD HO2 HA
    obtain ⟨k3, q3, cq3, D3, ho3, hk3, hq3, rfl, rfl, hO3, hR3, hA3, hD3, hb3⟩ := hrel
    have HO3 := Lib.hid hO3
    have HR3 := Lib.hid hR3
    have HA3 := Lib.hid hA3
    have HD3 := Lib.hid hD3
    have HB3 := Lib.hid hb3
    have HQ3 := Lib.hid hq3
    have hq3m : q3 ≤ 1000000 := by omega
    clear hO3 hR3 hD3 hb3 hq3 hA3
    by_cases hlt3 : k3 < u
    · have hk30 : (0 : Int) ≤ (k3 : Int) := by omega
      have hk31 : (k3 : Int) < (u : Int) := by omega
      have hi0 : (0 : Int) ≤ (i : Int) := by omega
      have hi1 : (i : Int) < (qa : Int) := by omega
      obtain ⟨x, fr, gE, oE, hfx, hEe, hgE, d2, lf, rf⟩ := HR3.out.at_ hlt3
      have hfr : R[k3]'(by rw [HRU.out]; exact hlt3) = fr := by rw [List.getElem?_eq_getElem (by rw [HRU.out]; exact hlt3)] at hfx; exact Option.some.inj hfx
      have hl1000 : fr.length ≤ 1000 := HRL.out fr (hfr ▸ List.getElem_mem _)
      have hnx3 : Fi ++ (R.take (k3 + 1)).map ((y : Int) :: ·) = (Fi ++ (R.take k3).map ((y : Int) :: ·)) ++ [(y : Int) :: fr] := by
        rw [List.take_succ_eq_append_getElem (by rw [HRU.out]; exact hlt3), hfr, List.map_append, List.append_assoc]
        rfl
      obtain ⟨hil, hLe⟩ := List.getElem?_eq_some_iff.1 HLI.out
      obtain ⟨gA, oA, hAe, hgA, d1⟩ := RdI.at_ HA3.out hil
      rw [hLe] at d1
      obtain ⟨C3, nl, cl⟩ := x
      dsimp only at d2 lf rf
      have hnl : nl ≤ 1000 := by omega
      have HLF := Lib.hid lf
      have HRF := Lib.hid rf
      have HNX3 := Lib.hid hnx3
      have HLIT : Hid ((wr.drew.alloc (.cells #[.int .i64 (y : Int)] 3)).ownsRow wr.heap.size 3 1 (.slice (some ⟨wr.heap.size, 0, none⟩) 1 1) 1 (vI [(y : Int)])) := own_new wr.drew 3 1 1 #[.int .i64 (y : Int)] rfl (by simp [maxLen]) (Nat.le_refl _)
      subst hEe
      subst hAe
      clear lf rf hnx3 hfr hfx hl1000 hil hLe
      go_wp2_with fail
      refine wp_region_noPanic ?_
      go_region_law (first
        | ((refine step_appI rfl (.tmp 75) (.tmp 79) rfl wr.heap.size (some ⟨wr.heap.size, 0, none⟩) 1 1 [(y : Int)] (by simp [Act.eval]) HLIT.out C3 nl cl fr (by simp [Act.eval]) (HRF.out.below (bel_alloc (bel_drew (Below.refl _ _)) _)) HLF.out (by omega) (by simp) ?_); intro A5 c5 w5 ho5 hg5 hat5; obtain ⟨g5, rfl, hq5⟩ := ownQ_of ho5 (by omega); have hb5 : Below wr.heap.size wr w5 := bel_app (bel_alloc (bel_drew (Below.refl _ _)) _) hg5 (fun g' e => ((own_lt HLIT.out) g' e).1); have hgg5 : wr.heap.size ≤ g5 := (own_lt ho5 g5 rfl).1; have HB5 := Lib.hid hb5; have HGG5 := Lib.hid hgg5; have HO5 := Lib.hid ho5; have e1 := keep_below hb5 d1; have e2 := keep_below hb5 d2; have l1 : gA < w5.heap.size := Nat.lt_of_lt_of_le hgA hb5.size; have l2 : gE < w5.heap.size := Nat.lt_of_lt_of_le hgE hb5.size; clear hq5 hg5 hat5 ho5 hb5 hgg5)
        | ((refine step_appS rfl (.tmp 70) (.tmp 81) rfl base D3 q3 cq3 ho3 (by simp [Act.eval]) ((HO3.out.below HB5.out).own.alloc _) (some ⟨w5.heap.size, 0, none⟩) 1 1 [(some ⟨g5, 0, none⟩, 1 + nl, c5)] (by simp [Act.eval]) (rd_newS _ _ _) rfl (by omega) (by have := HB3.out.size; have := HB5.out.size; simp; omega) ?_); intro D6 c6 w6 ho6 hg6 hat6; have HO6 := Lib.hid ho6; have HG6 := Lib.hid hg6; have HAT6 := Lib.hid hat6; clear ho6 hg6 hat6))
      all_goals
        refine NoPanic.normal ?_
        have hb56 : Below wr.heap.size wr (w5.alloc (.cells #[.slice (some ⟨g5, 0, none⟩) (1 + nl) c5] 22)) := bel_alloc HB5.out _
        have hs3 : base ≤ wr.heap.size := Nat.le_trans hbase HB3.out.size
        have hP := Own2.push HO3.out (f := (y : Int) :: fr) (own_mono2 (HO5.out.alloc _) hs3) HGG5.out hb56 HO6.out HG6.out HAT6.out
        have hD6 : ∀ g, ob D6 = some g → g < lo ∨ w2.heap.size ≤ g := fun g hg => by
          rcases HAT6.out with h1 | h1
          · exact HD3.out g (h1 ▸ hg)
          · rw [h1] at hg
            injection hg with hg
            have := hb56.size
            have := HB3.out.size
            omega
        have hR6 : Rd2I w6 (some ⟨gE, oE, none⟩) u hE R := (HR3.out.below hb56).grown HG6.out
          (fun g hg r => by have h1 := HEB.out g hg; have h2 := HD3.out g r; omega)
          (fun x hx g hg r => by have h1 := HEX.out x hx g hg; have h2 := HD3.out g r; omega)
        have hA6 : Rd w6 (some ⟨gA, oA, none⟩) (vI L) := (HA3.out.below hb56).grown HG6.out (fun g e r => by have h1 := HAB.out g e; have h2 := (own_lt HO3.out.own g r.symm).1; omega)
        have hb6 : Below base w2 w6 := ⟨HG6.out.os.trans (hb56.os.trans HB3.out.os), HG6.out.tape.trans (hb56.tape.trans HB3.out.tape), HG6.out.output.trans (hb56.output.trans HB3.out.output), by have := HG6.out.size; have := hb56.size; have := HB3.out.size; omega, fun k hk => by
          have e1 := HB3.out.block k hk
          have e2 := hb56.block k (by omega)
          have e3 := HG6.out.block k (by have := hb56.size; omega) (fun r => by have := (own_lt HO3.out.own k r.symm).1; omega)
          rw [e3, e2, e1]⟩
        have HP := Lib.hid hP
        have HD6 := Lib.hid hD6
        have HR6 := Lib.hid hR6
        have HA6 := Lib.hid hA6
        have HB6 := Lib.hid hb6
        clear hP hD6 hR6 hA6 hb6 hb56
        go_wp2_with fail
        exact ⟨⟨k3 + 1, q3 + 1, c6, D6, _, by omega, by have := HQ3.out; omega, by go_num, rfl, by rw [HNX3.out]; exact HP.out, HR6.out, HA6.out, HD6.out, HB6.out⟩, by simp [intOf]; omega⟩
    · obtain rfl : k3 = u := by omega
      have hk31 : ¬ (k3 : Int) < (k3 : Int) := by omega
      have hfin3 : Own2 base wr D3 (q + k3) cq3 ho3 (Fi ++ R.map ((y : Int) :: ·)) := by
        rw [← HQ3.out]
        have := HO3.out
        rwa [List.take_of_length_le (by rw [HRU.out]; exact Nat.le_refl _)] at this
      have HF3 := Lib.hid hfin3
      have HQ4 : Hid (q + k3 = q3) := HQ3.out.symm
      clear hfin3
      rw [HQ4.out] at HX
      go_wp2_with fail
      exact HX.out _ _ _ _ _ _ _ _ _ _ _ _ _ _ _ _ _ _ _ _ _ _ _ (HQ4.out ▸ HF3.out) HB3.out
end Go.Proofs.YtoedmmhiinhljaaGreatDoor

/- Tilings: the reference's search. -/
namespace Go.Proofs.YtoedmmhiinhljaaGreatDoor
open Go.RowKit
set_option linter.unusedVariables false
attribute [local go_sem ↓] Go.wp_at_zero Go.wp_at_succ

noncomputable def til8Out : Code := ((Tryz.f39.body.map loopsIn).getD []).getD 0 .skip
theorem tilH_no {L : List Int} {free : Nat} {m : Int} (h : m.toNat.testBit (lowN free) = false ∨ inM m.toNat free = false) : tilH L free m = [] := by
  unfold tilH
  split
  · next h1 =>
    rcases h with h | h
    · rw [h] at h1; cases h1
    · exact tilG_no h
  · rfl
theorem tilH_yes {L : List Int} {free : Nat} {m : Int} (h1 : m.toNat.testBit (lowN free) = true) (h2 : inM m.toNat free = true) : tilH L free m = (tilV L (free - m.toNat)).map (m :: ·) := by
  unfold tilH
  rw [if_pos h1, tilG_yes h2]
set_option maxRecDepth 100000 in
set_option maxHeartbeats 3200000 in
theorem l8Loop {Q : Exit → Act → World → Prop} {s3 s4 s5 s6 s10 s11 s12 s13 s14 s15 s16 s17 s18 s19 s20 s21 s22 s23 s24 s25 s26 s27 s28 s29 s30 s31 s32 s33 s34 s35 s36 s37 s38 s39 s40 s41 s42 s43 s44 s45 s46 s47 s48 s49 s50 s51 s52 s53 s54 s55 s56 s57 s58 s59 s60 s61 s62 s63 s64 s65 s66 s67 s68 s69 s70 s71 s72 s73 s74 s75 s76 s77 s78 s79 s80 s81 s82 s83 : Value} {L : List Int} {A D0 : Option Addr} {qa ca free most low c0 : Nat} {w w0 : World}
    (IH : ∀ (free2 most2 : Nat) (w : World), free2 < free → Rd w A (vI L) → free2 < 2 ^ 36 → 1 ≤ most2 → most2 ≤ 1000 → Calls Tryz.prog 39 #[.slice A qa ca, .int .i64 (free2 : Int), .int .i64 (most2 : Int)] w (RetO2 w ((tilV L free2).take most2)))
    (hlow : lowN free = low) (hlow36 : low < 36) (hA : Rd w A (vI L)) (hLq : L.length = qa) (hq5 : qa ≤ 1048576) (hM : Msk 36 L) (hAB : ∀ g, ob A = some g → g < w.heap.size)
    (hfr : free < 2 ^ 36) (hm1 : 1 ≤ most) (hm3 : most ≤ 1000) (hI : Own2 w.heap.size w0 D0 0 c0 [] []) (hb0 : Below w.heap.size w w0)
    (hexit : ∀ (v10 v11 v19 v20 v21 v22 v23 v24 v25 v26 v27 v28 v29 v30 v31 v32 v33 v34 v35 v36 v37 v38 v39 v40 v41 v42 v43 v44 v45 v46 v47 v48 v49 v50 v51 v52 v53 v54 v55 v56 v57 v58 v59 v60 v61 v62 v63 v64 v65 v66 v67 v68 v69 v70 v71 v72 v73 v74 v75 v76 v77 v78 v79 v80 v81 v82 : Value) (i q cq : Nat) (D : Option Addr) (ho : List H) (w3 : World), Own2 w.heap.size w3 D q cq ho ((L.flatMap (tilH L free)).take most) → Below w.heap.size w w3 → Q (.exit 0) ⟨List.toArray ((.slice A qa ca) :: (.int .i64 (free : Int)) :: (.int .i64 (most : Int)) :: s3 :: s4 :: s5 :: s6 :: (.slice D q cq) :: (.int .i64 (low : Int)) :: (.int .i64 (i : Int)) :: v10 :: v11 :: s12 :: s13 :: s14 :: s15 :: s16 :: s17 :: s18 :: v19 :: v20 :: v21 :: v22 :: v23 :: v24 :: v25 :: v26 :: v27 :: v28 :: v29 :: v30 :: v31 :: v32 :: v33 :: v34 :: v35 :: v36 :: v37 :: v38 :: v39 :: v40 :: v41 :: v42 :: v43 :: v44 :: v45 :: v46 :: v47 :: v48 :: v49 :: v50 :: v51 :: v52 :: v53 :: v54 :: v55 :: v56 :: v57 :: v58 :: v59 :: v60 :: v61 :: v62 :: v63 :: v64 :: v65 :: v66 :: v67 :: v68 :: v69 :: v70 :: v71 :: v72 :: v73 :: v74 :: v75 :: v76 :: v77 :: v78 :: v79 :: v80 :: v81 :: v82 :: s83 :: []), []⟩ w3) :
    Code.wp Tryz.prog (Code.loop til8Out) Q ⟨List.toArray ((.slice A qa ca) :: (.int .i64 (free : Int)) :: (.int .i64 (most : Int)) :: s3 :: s4 :: s5 :: s6 :: (.slice D0 0 c0) :: (.int .i64 (low : Int)) :: (.int .i64 0) :: s10 :: s11 :: s12 :: s13 :: s14 :: s15 :: s16 :: s17 :: s18 :: s19 :: s20 :: s21 :: s22 :: s23 :: s24 :: s25 :: s26 :: s27 :: s28 :: s29 :: s30 :: s31 :: s32 :: s33 :: s34 :: s35 :: s36 :: s37 :: s38 :: s39 :: s40 :: s41 :: s42 :: s43 :: s44 :: s45 :: s46 :: s47 :: s48 :: s49 :: s50 :: s51 :: s52 :: s53 :: s54 :: s55 :: s56 :: s57 :: s58 :: s59 :: s60 :: s61 :: s62 :: s63 :: s64 :: s65 :: s66 :: s67 :: s68 :: s69 :: s70 :: s71 :: s72 :: s73 :: s74 :: s75 :: s76 :: s77 :: s78 :: s79 :: s80 :: s81 :: s82 :: s83 :: []), []⟩ w0 := by
  have HIH := Lib.hid @IH
  have HLOW := Lib.hid hlow
  have HA := Lib.hid hA
  have HLQ := Lib.hid hLq
  have HM := Lib.hid hM
  have HI0 := Lib.hid hI
  have HFR := Lib.hid hfr
  have HAB := Lib.hid hAB
  have HX := Lib.hid @hexit
  have hlo0 : (0 : Int) ≤ (low : Int) := by omega
  have hlo64 : (low : Int) ≤ 64 := by omega
  have elo : IntKind.i64.wrap (low : Int) = (low : Int) := Go.IntWalk.i64_in _ (by omega)
  clear IH hlow hA hLq hM hI hfr hAB hexit
  conv => arg 2; arg 1; whnf
  go_loopw [9, 7] (fun e12 e11 wr => ∃ (i q cq : Nat) (D : Option Addr) (ho : List H), i ≤ qa ∧ e12 = .int .i64 i ∧ e11 = .slice D q cq ∧ Own2 w.heap.size wr D q cq ho (((L.take i).flatMap (tilH L free)).take most) ∧ Below w.heap.size w wr) (fun e12 _ _ => qa - (intOf e12).toNat)
  case atStart => exact ⟨0, 0, c0, D0, [], Nat.zero_le _, rfl, rfl, by simpa using HI0.out, hb0⟩
  case round =>
    clear HI0
    obtain ⟨i, q, cq, D, ho, hi, rfl, rfl, hO, hb⟩ := hrel
    have hqm : q ≤ most := by have := hO.flen; rw [List.length_take] at this; omega
    have HO := Lib.hid hO
    clear hO
    by_cases hlt : i < qa
    · have hi0 : (0 : Int) ≤ (i : Int) := by omega
      have hi1 : (i : Int) < (qa : Int) := by omega
      by_cases hqlt : q < most
      · have hq1 : (q : Int) < (most : Int) := by omega
        have hkl : i < L.length := by rw [HLQ.out]; exact hlt
        obtain ⟨g1, off1, hC1, hg1, d1⟩ := RdI.at_ (HA.out.below hb) hkl
        obtain ⟨y, hy, hy36⟩ := HM.out _ (List.getElem_mem hkl)
        rw [hy] at d1
        have HLI : Hid (L[i]? = some (y : Int)) := by show _ = _; rw [List.getElem?_eq_getElem hkl, hy]
        obtain ⟨Fi, hFi⟩ : ∃ Fi, (L.take i).flatMap (tilH L free) = Fi := ⟨_, rfl⟩
        have hst := flat_take (tilH L free) L i hkl
        rw [hFi, hy] at hst
        have hfl := HO.out.flen
        rw [hFi] at HO hfl
        have hfs := full_step most Fi (tilH L free (y : Int)) (by rw [hfl]; exact hqlt)
        have hFt : Fi.take most = Fi := hfs.1
        have hFn := hfs.2
        rw [hFt] at HO hfl
        rw [hfl, ← hst] at hFn
        have HFN := Lib.hid hFn
        have hNO : tilH L free (y : Int) = [] → Hid ((((L.take (i + 1)).flatMap (tilH L free)).take most) = Fi) := fun e => by show _ = _; rw [← HFN.out, e]; simp
        have HNO := Lib.hid hNO
        have hbit := bit_testC y low (by omega)
        obtain ⟨d, hd⟩ : ∃ d, y / 2 ^ low = d := ⟨_, rfl⟩
        have hdI : (y : Int) / 2 ^ low = (d : Int) := by rw [← hd]; simp
        rw [hdI] at hbit
        clear hst hfl hfs hFt hFn hFi hNO hy hd
        cases hbt : y.testBit low with
        | false =>
          rw [hbt] at hbit
          have HN := HNO.out (tilH_no (.inl (by rw [Int.toNat_natCast, HLOW.out]; exact hbt)))
          have HC1 := Lib.hid hC1
          subst hC1
          clear hbt HNO
          go_wp2_with fail
          (refine wp_region_below (by kernel_rfl) (by kernel_rfl) ?_; (repeat (first | go_big_quiet_skip | (refine quietV (v := ?_) (by rfl) rfl (fun w' hbw => ?_) ?_; rotate_left; ((try dsimp only at hbw); have hbc := (bcell hbw).1; have hbf := (bcell hbw).2; go_simp; first | done | with_reducible rfl | fail); simp only [List.setIfInBounds_toArray, List.set_cons_zero, List.set_cons_succ]))); refine wpQuiet_nil ?_; intro wz hbz)
          go_wp2_with fail
          exact ⟨⟨i + 1, q, cq, D, ho, by omega, by go_num, rfl, by rw [HN.out]; exact HO.out.below hbz, bel_trans hb hbz⟩, by simp [intOf]; omega⟩
        | true =>
          rw [hbt] at hbit
          have HBT := Lib.hid hbt
          obtain ⟨z, hz⟩ : ∃ z, y &&& free = z := ⟨_, rfl⟩
          have hand : bits .and .i64 (y : Int) (free : Int) = (z : Int) := by rw [i64_and y free (by omega) (by have := HFR.out; omega), hz]
          subst hC1
          clear hbt
          cases hin : inM y free with
          | false =>
            have hzy : z ≠ y := fun e => by unfold inM at hin; rw [hz, e] at hin; simp at hin
            have hne : ((z : Int) != (y : Int)) = true := by simp; omega
            have HN := HNO.out (tilH_no (.inr (by rw [Int.toNat_natCast]; exact hin)))
            clear hin hzy hz HNO
            go_wp2_with fail
            (refine wp_region_below (by kernel_rfl) (by kernel_rfl) ?_; (repeat (first | go_big_quiet_skip | (refine quietV (v := ?_) (by rfl) rfl (fun w' hbw => ?_) ?_; rotate_left; ((try dsimp only at hbw); have hbc := (bcell hbw).1; have hbf := (bcell hbw).2; go_simp; first | done | with_reducible rfl | fail); simp only [List.setIfInBounds_toArray, List.set_cons_zero, List.set_cons_succ]))); refine wpQuiet_nil ?_; intro wz hbz)
            go_wp2_with fail
            exact ⟨⟨i + 1, q, cq, D, ho, by omega, by go_num, rfl, by rw [HN.out]; exact HO.out.below hbz, bel_trans hb hbz⟩, by simp [intOf]; omega⟩
          | true =>
            have hzy : z = y := by unfold inM at hin; rw [beq_iff_eq, hz] at hin; exact hin
            have hne : ((z : Int) != (y : Int)) = false := by simp [hzy]
            have hy1 : 1 ≤ y := bit_pos HBT.out
            have hyf : y ≤ free := inM_le hin
            obtain ⟨f2, hf2⟩ : ∃ f2, free - y = f2 := ⟨_, rfl⟩
            have hfI : (free : Int) - (y : Int) = (f2 : Int) := by omega
            have ef : IntKind.i64.wrap (f2 : Int) = (f2 : Int) := Go.IntWalk.i64_in _ (by have := HFR.out; omega)
            obtain ⟨mo2, hmo⟩ : ∃ mo2, most - q = mo2 := ⟨_, rfl⟩
            have hmI : (most : Int) - (q : Int) = (mo2 : Int) := by omega
            have em : IntKind.i64.wrap (mo2 : Int) = (mo2 : Int) := Go.IntWalk.i64_in _ (by omega)
            have hG : tilH L free (y : Int) = (tilV L f2).map ((y : Int) :: ·) := by rw [tilH_yes (by rw [Int.toNat_natCast, HLOW.out]; exact HBT.out) (by rw [Int.toNat_natCast]; exact hin), Int.toNat_natCast, hf2]
            obtain ⟨R, hR⟩ : ∃ R, (tilV L f2).take mo2 = R := ⟨_, rfl⟩
            have hnx : ((L.take (i + 1)).flatMap (tilH L free)).take most = Fi ++ R.map ((y : Int) :: ·) := by rw [← HFN.out, hG, hmo, ← List.map_take, hR]
            have HNX := Lib.hid hnx
            have HRE := Lib.hid hR
            have hf36 : f2 < 2 ^ 36 := by have := HFR.out; omega
            have hff : f2 < free := by omega
            have hmo1 : 1 ≤ mo2 := by omega
            have hmo3 : mo2 ≤ 1000 := by omega
            clear hin hzy hz hG hnx hR hf2 hmo hyf HFN HNO
            go_wp2_with fail
            (refine wp_region_below (by kernel_rfl) (by kernel_rfl) ?_; (repeat (first | go_big_quiet_skip | (refine quietV (v := ?_) (by rfl) rfl (fun w' hbw => ?_) ?_; rotate_left; ((try dsimp only at hbw); have hbc := (bcell hbw).1; have hbf := (bcell hbw).2; go_simp; first | done | with_reducible rfl | fail); simp only [List.setIfInBounds_toArray, List.set_cons_zero, List.set_cons_succ]))); refine wpQuiet_nil ?_; intro wz hbz)
            have hbw := bel_trans hb hbz
            have d1z := keep_below hbz d1
            have l1z : g1 < wz.heap.size := Nat.lt_of_lt_of_le hg1 hbz.size
            have HOz := Lib.hid (HO.out.below hbz)
            have HBW := Lib.hid hbw
            clear hb hbz hbw d1 HO
            go_wp2_with fail
            refine (HIH.out f2 mo2 _ hff (HA.out.below HBW.out) hf36 hmo1 hmo3).mono ?_
            rw [HRE.out]
            rintro e w2 ⟨E, u, cu, hE, rfl, hOE, hb2⟩
            have HRL : Hid (∀ x ∈ R, x.length ≤ 1000) := fun x hx => by
              rw [← HRE.out] at hx
              have := til_len L (n := 36) (by omega) hf36 x (List.mem_of_mem_take hx)
              omega
            have hru := hOE.flen
            have HRU := Lib.hid hru
            have HRD := Lib.hid (Rd2I.of_own hOE)
            have HEB : Hid (∀ g, ob E = some g → wz.heap.size ≤ g ∧ g < w2.heap.size) := own_lt hOE.own
            have HEX : Hid (∀ x ∈ hE, ∀ g, ob x.1 = some g → wz.heap.size ≤ g ∧ g < w2.heap.size) := fun x hx g hg => by
              obtain ⟨k4, hk4, rfl⟩ := List.mem_iff_getElem.1 hx
              exact own_lt (hOE.row k4 hk4 (hOE.len ▸ hk4)) g hg
            have HO2 := Lib.hid (HOz.out.below hb2)
            have HDB : Hid (∀ g, ob D = some g → g < wz.heap.size) := fun g hg => (own_lt HOz.out.own g hg).2
            have HBB := Lib.hid (bel_trans HBW.out hb2)
            have HA2 := Lib.hid ((HA.out.below HBW.out).below hb2)
            have hu3 : u ≤ 1000 := by have := hru; rw [← HRE.out, List.length_take] at this; omega
            have HFI := Lib.hid HOz.out.flen
            have hq10 : q ≤ 1000 := by omega
            clear hOE hru hb2 d1z l1z HOz
            go_wp2_with fail
            refine l8Inner HA2.out HLQ.out hlt hq5 HLI.out HO2.out HRD.out HRL.out hu3 hq10 HBB.out.size HDB.out HEB.out HEX.out HAB.out ?_
            intro _ _ _ _ _ _ _ _ _ _ _ _ _ _ _ _ _ _ _ D3 cq3 ho3 w3 hO3 hB3
            have hfin3 : Own2 w.heap.size w3 D3 (q + u) cq3 ho3 (((L.take (i + 1)).flatMap (tilH L free)).take most) := by rw [HNX.out]; exact hO3
            have HF3 := Lib.hid hfin3
            have HB3 := Lib.hid hB3
            clear hfin3 hO3 hB3
            go_wp2_with fail
            exact ⟨⟨i + 1, q + u, cq3, D3, ho3, by omega, by go_num, rfl, HF3.out, HBB.out.trans HB3.out⟩, by simp [intOf]; omega⟩
      · have hq1 : ¬ (q : Int) < (most : Int) := by omega
        have hfin : (L.flatMap (tilH L free)).take most = ((L.take i).flatMap (tilH L free)).take most := by
          rw [flat_split (tilH L free) L i]
          exact full_end most _ _ (by rw [HO.out.flen]; exact hqlt)
        have HF := Lib.hid hfin
        clear hfin
        go_wp2_with fail
        exact HX.out _ _ _ _ _ _ _ _ _ _ _ _ _ _ _ _ _ _ _ _ _ _ _ _ _ _ _ _ _ _ _ _ _ _ _ _ _ _ _ _ _ _ _ _ _ _ _ _ _ _ _ _ _ _ _ _ _ _ _ _ _ _ _ _ _ _ _ _ _ _ _ _ (by rw [HF.out]; exact HO.out) hb
    · obtain rfl : i = qa := by omega
      have hi1 : ¬ (i : Int) < (i : Int) := by omega
      have hfin : (L.flatMap (tilH L free)).take most = ((L.take i).flatMap (tilH L free)).take most := by rw [List.take_of_length_le (l := L) (by rw [HLQ.out]; omega)]
      have HF := Lib.hid hfin
      clear hfin
      go_wp2_with fail
      exact HX.out _ _ _ _ _ _ _ _ _ _ _ _ _ _ _ _ _ _ _ _ _ _ _ _ _ _ _ _ _ _ _ _ _ _ _ _ _ _ _ _ _ _ _ _ _ _ _ _ _ _ _ _ _ _ _ _ _ _ _ _ _ _ _ _ _ _ _ _ _ _ _ _ (by rw [HF.out]; exact HO.out) hb
set_option maxRecDepth 100000 in
set_option maxHeartbeats 3200000 in
theorem l8Search_s (L : List Int) (A : Option Addr) (qa ca : Nat) (hLq : L.length = qa) (hq5 : qa ≤ 1048576) (hM : Msk 36 L) : ∀ (free most : Nat) (w : World), Rd w A (vI L) → free < 2 ^ 36 → 1 ≤ most → most ≤ 1000 →
    Calls Tryz.prog 39 #[.slice A qa ca, .int .i64 (free : Int), .int .i64 (most : Int)] w (RetO2 w ((tilV L free).take most))
  | free, most, w, hr, hfr, hm1, hm3 => by
    by_cases h0 : free = 0
    · have hf0 : ((free : Int) == 0) = true := by simp [h0]
      have HV2 : Hid ((tilV L free).take most = [[]]) := by show _ = _; rw [h0, tilV_zero, List.take_of_length_le (by simpa using hm1)]
      clear h0 hr hLq hM
      go_enter Tryz.func39, Tryz.ntmps39
      go_wp2_with fail
      go_ret
      exact ⟨_, _, _, _, rfl, by rw [HV2.out]; exact own2_one w, bel_alloc (bel_alloc (Below.refl _ _) _) _⟩
    · have hf0 : ((free : Int) == 0) = false := by simp [h0]
      have IH : ∀ (free2 most2 : Nat) (w : World), free2 < free → Rd w A (vI L) → free2 < 2 ^ 36 → 1 ≤ most2 → most2 ≤ 1000 → Calls Tryz.prog 39 #[.slice A qa ca, .int .i64 (free2 : Int), .int .i64 (most2 : Int)] w (RetO2 w ((tilV L free2).take most2)) :=
        fun free2 most2 w hlt h1 h2 h3 h4 => l8Search_s L A qa ca hLq hq5 hM free2 most2 w h1 h2 h3 h4
      obtain ⟨hlb, hl64⟩ := lowN_bit h0 (by omega)
      have hlowc := fun u => l8Low_s free u h0 (by omega)
      have hS := tilV_H L h0
      obtain ⟨low, hlo⟩ : ∃ low, lowN free = low := ⟨_, rfl⟩
      rw [hlo] at hlowc hl64 hlb
      have hlow36 : low < 36 := by
        rcases Nat.lt_or_ge low 36 with h | h
        · exact h
        · rw [Nat.testBit_lt_two_pow (Nat.lt_of_lt_of_le hfr (Nat.pow_le_pow_right (by decide) h))] at hlb
          cases hlb
      have hAB : ∀ g, ob A = some g → 0 < L.length → g < w.heap.size := fun g e hp => by
        obtain ⟨g1, o1, hA1, hg1, _⟩ := RdI.at_ hr hp
        subst hA1
        simp only [ob, Option.map_some, Option.some.injEq] at e
        omega
      have HAB := Lib.hid hAB
      have HLOWC := Lib.hid @hlowc
      have HLO := Lib.hid hlo
      have HS := Lib.hid hS
      have HIH := Lib.hid @IH
      have HR := Lib.hid hr
      have HLQ := Lib.hid hLq
      have HM := Lib.hid hM
      have HFR := Lib.hid hfr
      have HI0 : Hid (Own2 w.heap.size (w.alloc (.cells #[] 22)) (some ⟨w.heap.size, 0, none⟩) 0 0 [] []) := Own2.none_ (own_new w 22 1 0 #[] rfl (by simp [maxLen]) (Nat.le_refl _))
      clear h0 IH hlb hl64 hlowc hS hlo hAB hr hLq hM hfr
      go_enter Tryz.func39, Tryz.ntmps39
      go_wp2_with fail
      refine (HLOWC.out _).mono ?_
      rintro e w1 ⟨rfl, hb1⟩
      have HI1 := Lib.hid (HI0.out.below hb1)
      have HB1 := Lib.hid (bel_trans (bel_alloc (Below.refl w.heap.size w) (.cells #[] 22)) hb1)
      clear hb1 HI0
      go_wp2_with fail
      by_cases hp : 0 < L.length
      · refine l8Loop HIH.out HLO.out hlow36 HR.out HLQ.out hq5 HM.out (fun g e => HAB.out g e hp) HFR.out hm1 hm3 HI1.out HB1.out ?_
        intro _ _ _ _ _ _ _ _ _ _ _ _ _ _ _ _ _ _ _ _ _ _ _ _ _ _ _ _ _ _ _ _ _ _ _ _ _ _ _ _ _ _ _ _ _ _ _ _ _ _ _ _ _ _ _ _ _ _ _ _ _ _ _ _ _ _ i q cq D ho w3 hO3 hB3
        rw [← HS.out] at hO3
        have HO3 := Lib.hid hO3
        have HB3 := Lib.hid hB3
        clear hO3 hB3
        go_wp2_with fail
        go_ret
        exact ⟨_, _, _, _, rfl, HO3.out, HB3.out⟩
      · have hL0 : L = [] := List.eq_nil_of_length_eq_zero (by omega)
        have hqa0 : qa = 0 := by rw [← HLQ.out]; omega
        have hV0 : (tilV L free).take most = [] := by rw [HS.out, hL0]; simp
        have HV0 := Lib.hid hV0
        have hq1 : ¬ (0 : Int) < (qa : Int) := by omega
        clear hL0 hV0 hqa0
        go_loopw [9, 7] (fun e9 e7 wr => e9 = .int .i64 0 ∧ e7 = .slice (some ⟨w.heap.size, 0, none⟩) 0 0 ∧ wr = w1) (fun _ _ _ => 0)
        case atStart => exact ⟨rfl, rfl, rfl⟩
        case round =>
          obtain ⟨rfl, rfl, rfl⟩ := hrel
          go_wp2_with fail
          go_ret
          exact ⟨_, _, _, [], rfl, by rw [HV0.out]; exact HI1.out, HB1.out⟩
termination_by free => free
decreasing_by omega
end Go.Proofs.YtoedmmhiinhljaaGreatDoor

/- Has a region a cell? The mask of some cells: both sides. -/
namespace Go.Proofs.YtoedmmhiinhljaaGreatDoor
open Go.RowKit
set_option linter.unusedVariables false
attribute [local go_sem ↓] Go.wp_at_zero Go.wp_at_succ

set_option maxHeartbeats 1600000 in
theorem has_i (W : Int) (A : Option Addr) (n c : Nat) (rows : List Int) (x y : Int) (w : World) (hr : Rd w A (vI rows)) (hl : rows.length = n) (hv : isReg W rows = true) (hx : -1000 ≤ x ∧ x ≤ 1000) (hy : -1000 ≤ y ∧ y ≤ 1000) :
    Calls Tryz.prog 87 #[.agg #[.int .i64 W, .slice A n c], .int .i64 x, .int .i64 y] w (Ret w (.bool (hasR W rows (x, y)))) := by
  obtain ⟨m, rfl, hm1, hm6, hn1, hn6, hrow⟩ := isReg_yes hv
  rw [hl] at hn1 hn6
  have HL := Lib.hid hl
  have HR := Lib.hid (hr.alloc (.cells #[.int .i64 (m : Int), .slice A n c] 29))
  have HROW := Lib.hid hrow
  have hdef : hasR (m : Int) rows (x, y) = (((decide (0 ≤ x) && decide (x < m)) && (decide (0 ≤ y) && decide (y < (n : Int)))) && (rows.getD y.toNat 0).toNat.testBit x.toNat) := by unfold hasR; rw [hl]
  have HD := Lib.hid hdef
  clear hl hr hrow hv hdef
  by_cases hxm : 0 ≤ x ∧ x < m
  · by_cases hyn : 0 ≤ y ∧ y < n
    · obtain ⟨p, rfl⟩ := Int.eq_ofNat_of_zero_le hxm.1
      obtain ⟨q, rfl⟩ := Int.eq_ofNat_of_zero_le hyn.1
      have hkl : q < rows.length := by rw [HL.out]; omega
      obtain ⟨t, ht, htl⟩ := HROW.out q hkl
      have hgd : (rows.getD ((q : Int)).toNat 0).toNat = t := by rw [Int.toNat_natCast, List.getD_eq_getElem?_getD, List.getElem?_eq_getElem hkl, Option.getD_some, ht]; rfl
      have HV : Hid (hasR (m : Int) rows ((p : Int), (q : Int)) = t.testBit p) := by
        show _ = _
        rw [HD.out, hgd, Int.toNat_natCast]
        simp only [show (0 : Int) ≤ (p : Int) from by omega, show (0 : Int) ≤ (q : Int) from by omega, show (p : Int) < (m : Int) from by omega, show (q : Int) < (n : Int) from by omega, decide_true, Bool.and_true, Bool.true_and]
      have h26 : t < 2 ^ 62 := Nat.lt_of_lt_of_le htl (Nat.pow_le_pow_right (by decide) (by omega))
      have hbit := bit_testP t p h26
      have ht26 : t < 2 ^ 6 := Nat.lt_of_lt_of_le htl (Nat.pow_le_pow_right (by decide) hm6)
      obtain ⟨d, hd⟩ : ∃ d, t / 2 ^ p = d := ⟨_, rfl⟩
      have hdI : (t : Int) / 2 ^ p = (d : Int) := by rw [← hd]; simp
      rw [hdI] at hbit
      have hp0 : (0 : Int) ≤ (p : Int) := by omega
      have hp64 : (p : Int) ≤ 64 := by omega
      have hq0 : (0 : Int) ≤ (q : Int) := by omega
      have hq1 : (q : Int) < (n : Int) := by omega
      have b1 : true = (decide ((0 : Int) ≤ (p : Int)) && decide ((p : Int) ≤ (m : Int) - 1)) := by simp; omega
      have b2 : true = (decide ((0 : Int) ≤ (q : Int)) && decide ((q : Int) ≤ (n : Int) - 1)) := by simp; omega
      have B1 := Lib.hid b1
      have B2 := Lib.hid b2
      have e1 : IntKind.i64.wrap ((m : Int) - 1) = (m : Int) - 1 := Go.IntWalk.i64_in _ (by omega)
      have e2 : IntKind.i64.wrap ((n : Int) - 1) = (n : Int) - 1 := Go.IntWalk.i64_in _ (by omega)
      have HKL := Lib.hid hkl
      have HTT := Lib.hid ht
      clear ht htl hgd hd hxm hyn b1 b2 h26
      go_enter Tryz.func87, Tryz.ntmps87
      go_wp2_with fail
      refine (between_b (p : Int) 0 ((m : Int) - 1) true _ B1.out).mono ?_
      rintro e w1 ⟨rfl, hb1⟩
      have hB := (Blk.new w 29 #[.int .i64 (m : Int), .slice A n c]).below hb1
      have d0 : w1.cell? ⟨w.heap.size, 0, none⟩ = some (.int .i64 (m : Int)) := by simpa using hB.cell 0
      have d1 : w1.cell? ⟨w.heap.size, 1, none⟩ = some (.slice A n c) := by simpa using hB.cell 1
      have hgw := hB.lt
      go_wp2_with fail
      refine (between_b (q : Int) 0 ((n : Int) - 1) true _ B2.out).mono ?_
      rintro e w2 ⟨rfl, hb2⟩
      have d2 := keep_below hb2 d1
      have hgw2 : w.heap.size < w2.heap.size := Nat.lt_of_lt_of_le hgw hb2.size
      obtain ⟨g, off, hA, hg, c1⟩ := RdI.at_ ((HR.out.below hb1).below hb2) HKL.out
      rw [HTT.out] at c1
      subst hA
      go_wp2_with fail
      go_ret
      exact ⟨by rw [HV.out, ← hbit]; rfl, (by (repeat (first | with_reducible exact Below.refl _ _ | with_reducible assumption | with_reducible apply bel_alloc | with_reducible apply bel_drew | with_reducible apply bel_drewN | ((with_reducible refine bel_set ?_ ?_); rotate_left; (simp <;> omega)) | (with_reducible refine bel_trans ?_ (by with_reducible assumption)))))⟩
    · have HV : Hid (hasR (m : Int) rows (x, y) = false) := by
        show _ = _
        rw [HD.out]
        have : (decide (0 ≤ y) && decide (y < (n : Int))) = false := by
          rw [Bool.eq_false_iff]; intro h; simp only [Bool.and_eq_true, decide_eq_true_eq] at h; exact hyn h
        rw [this, Bool.and_false, Bool.false_and]
      have b1 : true = (decide ((0 : Int) ≤ x) && decide (x ≤ (m : Int) - 1)) := by simp; omega
      have b2 : false = (decide ((0 : Int) ≤ y) && decide (y ≤ (n : Int) - 1)) := by
        symm; rw [Bool.eq_false_iff]; intro h; simp only [Bool.and_eq_true, decide_eq_true_eq] at h; exact hyn ⟨h.1, by omega⟩
      have B1 := Lib.hid b1
      have B2 := Lib.hid b2
      have e1 : IntKind.i64.wrap ((m : Int) - 1) = (m : Int) - 1 := Go.IntWalk.i64_in _ (by omega)
      have e2 : IntKind.i64.wrap ((n : Int) - 1) = (n : Int) - 1 := Go.IntWalk.i64_in _ (by omega)
      clear hxm hyn b1 b2
      go_enter Tryz.func87, Tryz.ntmps87
      go_wp2_with fail
      refine (between_b x 0 ((m : Int) - 1) true _ B1.out).mono ?_
      rintro e w1 ⟨rfl, hb1⟩
      have hB := (Blk.new w 29 #[.int .i64 (m : Int), .slice A n c]).below hb1
      have d0 : w1.cell? ⟨w.heap.size, 0, none⟩ = some (.int .i64 (m : Int)) := by simpa using hB.cell 0
      have d1 : w1.cell? ⟨w.heap.size, 1, none⟩ = some (.slice A n c) := by simpa using hB.cell 1
      have hgw := hB.lt
      go_wp2_with fail
      refine (between_b y 0 ((n : Int) - 1) false _ B2.out).mono ?_
      rintro e w2 ⟨rfl, hb2⟩
      go_wp2_with fail
      go_ret
      exact ⟨by rw [HV.out]; rfl, (by (repeat (first | with_reducible exact Below.refl _ _ | with_reducible assumption | with_reducible apply bel_alloc | with_reducible apply bel_drew | with_reducible apply bel_drewN | ((with_reducible refine bel_set ?_ ?_); rotate_left; (simp <;> omega)) | (with_reducible refine bel_trans ?_ (by with_reducible assumption)))))⟩
  · have HV : Hid (hasR (m : Int) rows (x, y) = false) := by
      show _ = _
      rw [HD.out]
      have : (decide (0 ≤ x) && decide (x < (m : Int))) = false := by
        rw [Bool.eq_false_iff]; intro h; simp only [Bool.and_eq_true, decide_eq_true_eq] at h; exact hxm h
      rw [this, Bool.false_and, Bool.false_and]
    have b1 : false = (decide ((0 : Int) ≤ x) && decide (x ≤ (m : Int) - 1)) := by
      symm; rw [Bool.eq_false_iff]; intro h; simp only [Bool.and_eq_true, decide_eq_true_eq] at h; exact hxm ⟨h.1, by omega⟩
    have B1 := Lib.hid b1
    have e1 : IntKind.i64.wrap ((m : Int) - 1) = (m : Int) - 1 := Go.IntWalk.i64_in _ (by omega)
    clear hxm b1
    go_enter Tryz.func87, Tryz.ntmps87
    go_wp2_with fail
    refine (between_b x 0 ((m : Int) - 1) false _ B1.out).mono ?_
    rintro e w1 ⟨rfl, hb1⟩
    go_wp2_with fail
    go_ret
    exact ⟨by rw [HV.out]; rfl, (by (repeat (first | with_reducible exact Below.refl _ _ | with_reducible assumption | with_reducible apply bel_alloc | with_reducible apply bel_drew | with_reducible apply bel_drewN | ((with_reducible refine bel_set ?_ ?_); rotate_left; (simp <;> omega)) | (with_reducible refine bel_trans ?_ (by with_reducible assumption)))))⟩
set_option maxHeartbeats 1600000 in
theorem l6In_s (W : Int) (A : Option Addr) (n c : Nat) (rows : List Int) (x y : Int) (w : World) (hr : Rd w A (vI rows)) (hl : rows.length = n) (hv : isReg W rows = true) (hx : -1000 ≤ x ∧ x ≤ 1000) (hy : -1000 ≤ y ∧ y ≤ 1000) :
    Calls Tryz.prog 116 #[.agg #[.int .i64 W, .slice A n c], .int .i64 x, .int .i64 y] w (Ret w (.bool (hasR W rows (x, y)))) := by
  obtain ⟨m, rfl, hm1, hm6, hn1, hn6, hrow⟩ := isReg_yes hv
  rw [hl] at hn1 hn6
  have HL := Lib.hid hl
  have HR := Lib.hid (hr.alloc (.cells #[.int .i64 (m : Int), .slice A n c] 29))
  have HROW := Lib.hid hrow
  have hdef : hasR (m : Int) rows (x, y) = (((decide (0 ≤ x) && decide (x < m)) && (decide (0 ≤ y) && decide (y < (n : Int)))) && (rows.getD y.toNat 0).toNat.testBit x.toNat) := by unfold hasR; rw [hl]
  have HD := Lib.hid hdef
  clear hl hr hrow hv hdef
  cases c1 : decide (x ≥ 0) with
  | false =>
    have HV : Hid (hasR (m : Int) rows (x, y) = false) := by show _ = _; rw [HD.out, show decide (0 ≤ x) = false from c1]; rfl
    go_enter Tryz.func116, Tryz.ntmps116
    go_wp2_with fail
    go_ret
    exact ⟨by rw [HV.out]; rfl, (by (repeat (first | with_reducible exact Below.refl _ _ | with_reducible assumption | with_reducible apply bel_alloc | with_reducible apply bel_drew | with_reducible apply bel_drewN | ((with_reducible refine bel_set ?_ ?_); rotate_left; (simp <;> omega)) | (with_reducible refine bel_trans ?_ (by with_reducible assumption)))))⟩
  | true =>
    cases c2 : decide (y ≥ 0) with
    | false =>
      have HV : Hid (hasR (m : Int) rows (x, y) = false) := by show _ = _; rw [HD.out, show decide (0 ≤ y) = false from c2]; simp
      go_enter Tryz.func116, Tryz.ntmps116
      go_wp2_with fail
      go_ret
      exact ⟨by rw [HV.out]; rfl, (by (repeat (first | with_reducible exact Below.refl _ _ | with_reducible assumption | with_reducible apply bel_alloc | with_reducible apply bel_drew | with_reducible apply bel_drewN | ((with_reducible refine bel_set ?_ ?_); rotate_left; (simp <;> omega)) | (with_reducible refine bel_trans ?_ (by with_reducible assumption)))))⟩
    | true =>
      cases c3 : decide (x < (m : Int)) with
      | false =>
        have HV : Hid (hasR (m : Int) rows (x, y) = false) := by show _ = _; rw [HD.out, c3]; simp
        go_enter Tryz.func116, Tryz.ntmps116
        go_wp2_with fail
        go_ret
        exact ⟨by rw [HV.out]; rfl, (by (repeat (first | with_reducible exact Below.refl _ _ | with_reducible assumption | with_reducible apply bel_alloc | with_reducible apply bel_drew | with_reducible apply bel_drewN | ((with_reducible refine bel_set ?_ ?_); rotate_left; (simp <;> omega)) | (with_reducible refine bel_trans ?_ (by with_reducible assumption)))))⟩
      | true =>
        cases c4 : decide (y < (n : Int)) with
        | false =>
          have HV : Hid (hasR (m : Int) rows (x, y) = false) := by show _ = _; rw [HD.out, c4]; simp
          go_enter Tryz.func116, Tryz.ntmps116
          go_wp2_with fail
          go_ret
          exact ⟨by rw [HV.out]; rfl, (by (repeat (first | with_reducible exact Below.refl _ _ | with_reducible assumption | with_reducible apply bel_alloc | with_reducible apply bel_drew | with_reducible apply bel_drewN | ((with_reducible refine bel_set ?_ ?_); rotate_left; (simp <;> omega)) | (with_reducible refine bel_trans ?_ (by with_reducible assumption)))))⟩
        | true =>
          have hx0 := of_decide_eq_true c1
          have hy0 := of_decide_eq_true c2
          have hx1 := of_decide_eq_true c3
          have hy1 := of_decide_eq_true c4
          obtain ⟨p, rfl⟩ := Int.eq_ofNat_of_zero_le hx0
          obtain ⟨q, rfl⟩ := Int.eq_ofNat_of_zero_le hy0
          have hkl : q < rows.length := by rw [HL.out]; omega
          obtain ⟨t, ht, htl⟩ := HROW.out q hkl
          have hgd : (rows.getD ((q : Int)).toNat 0).toNat = t := by rw [Int.toNat_natCast, List.getD_eq_getElem?_getD, List.getElem?_eq_getElem hkl, Option.getD_some, ht]; rfl
          have HV : Hid (hasR (m : Int) rows ((p : Int), (q : Int)) = t.testBit p) := by
            show _ = _
            rw [HD.out, hgd, Int.toNat_natCast, show decide ((0 : Int) ≤ (p : Int)) = true from c1, show decide ((0 : Int) ≤ (q : Int)) = true from c2, c3, c4]
            simp
          have h26 : t < 2 ^ 62 := Nat.lt_of_lt_of_le htl (Nat.pow_le_pow_right (by decide) (by omega))
          have hbit := bit_testP t p h26
          have ht26 : t < 2 ^ 6 := Nat.lt_of_lt_of_le htl (Nat.pow_le_pow_right (by decide) hm6)
          obtain ⟨d, hd⟩ : ∃ d, t / 2 ^ p = d := ⟨_, rfl⟩
          have hdI : (t : Int) / 2 ^ p = (d : Int) := by rw [← hd]; simp
          rw [hdI] at hbit
          have hp64 : (p : Int) ≤ 64 := by omega
          have HRR := HR.out
          obtain ⟨g, off, hA, hg, c9⟩ := RdI.at_ HRR hkl
          rw [ht] at c9
          subst hA
          clear ht htl hgd hd h26 HRR
          go_enter Tryz.func116, Tryz.ntmps116
          go_wp2_with fail
          go_ret
          exact ⟨by rw [HV.out, ← hbit]; rfl, (by (repeat (first | with_reducible exact Below.refl _ _ | with_reducible assumption | with_reducible apply bel_alloc | with_reducible apply bel_drew | with_reducible apply bel_drewN | ((with_reducible refine bel_set ?_ ?_); rotate_left; (simp <;> omega)) | (with_reducible refine bel_trans ?_ (by with_reducible assumption)))))⟩
theorem InRegion_s (W : Int) (A : Option Addr) (n c : Nat) (rows : List Int) (x y : Int) (w : World) (hr : Rd w A (vI rows)) (hl : rows.length = n) (hx : -1000 ≤ x ∧ x ≤ 1000) (hy : -1000 ≤ y ∧ y ≤ 1000) :
    Calls Tryz.prog 91 #[.agg #[.int .i64 W, .slice A n c], .int .i64 x, .int .i64 y] w (Ret w (.bool (isReg W rows && hasR W rows (x, y)))) := by
  have HL := Lib.hid hl
  have HR := Lib.hid (hr.alloc (.cells #[.int .i64 W, .slice A n c] 29))
  have HX := Lib.hid hx
  have HY := Lib.hid hy
  clear hl hr hx hy
  cases hv : isReg W rows with
  | false =>
    have HV := Lib.hid hv
    clear hv
    go_enter Tryz.func91, Tryz.ntmps91
    go_wp2_with fail
    refine (IsRegion_s _ _ _ _ rows _ HR.out HL.out).mono ?_
    rw [HV.out]
    rintro e w1 ⟨rfl, hb1⟩
    go_wp2_with fail
    go_ret
    exact ⟨rfl, (by (repeat (first | with_reducible exact Below.refl _ _ | with_reducible assumption | with_reducible apply bel_alloc | with_reducible apply bel_drew | with_reducible apply bel_drewN | ((with_reducible refine bel_set ?_ ?_); rotate_left; (simp <;> omega)) | (with_reducible refine bel_trans ?_ (by with_reducible assumption)))))⟩
  | true =>
    have HV := Lib.hid hv
    clear hv
    go_enter Tryz.func91, Tryz.ntmps91
    go_wp2_with fail
    refine (IsRegion_s _ _ _ _ rows _ HR.out HL.out).mono ?_
    rw [HV.out]
    rintro e w1 ⟨rfl, hb1⟩
    have hB := (Blk.new w 29 #[.int .i64 W, .slice A n c]).below hb1
    have d0 : w1.cell? ⟨w.heap.size, 0, none⟩ = some (.int .i64 W) := by simpa using hB.cell 0
    have d1 : w1.cell? ⟨w.heap.size, 1, none⟩ = some (.slice A n c) := by simpa using hB.cell 1
    have hgw := hB.lt
    go_wp2_with fail
    refine (l6In_s _ _ _ _ rows x y _ (HR.out.below hb1) HL.out HV.out HX.out HY.out).mono ?_
    rintro e w2 ⟨rfl, hb2⟩
    go_wp2_with fail
    go_ret
    exact ⟨by simp, (by (repeat (first | with_reducible exact Below.refl _ _ | with_reducible assumption | with_reducible apply bel_alloc | with_reducible apply bel_drew | with_reducible apply bel_drewN | ((with_reducible refine bel_set ?_ ?_); rotate_left; (simp <;> omega)) | (with_reducible refine bel_trans ?_ (by with_reducible assumption)))))⟩
theorem mc_num {m n : Nat} {rows : List Int} {x y : Int} (h36 : m * rows.length ≤ 36) (h : hasR (m : Int) rows (x, y) = true) :
    ∃ p q s j : Nat, x = (p : Int) ∧ y = (q : Int) ∧ p < m ∧ (q : Int) * (m : Int) = (s : Int) ∧ (s : Int) + (p : Int) = (j : Int) ∧ posM m (x, y) = j ∧ j < 36 ∧ j < m * rows.length ∧ s ≤ 36 := by
  obtain ⟨p, q, e, h1, h2, h3, h4⟩ := hasR_pos h
  injection e with e1 e2
  exact ⟨p, q, q * m, q * m + p, e1, e2, h1, by simp, by simp, h3, by omega, h4, by omega⟩
set_option maxRecDepth 100000 in
set_option maxHeartbeats 3200000 in
theorem MaskOfCells_i (W : Int) (A B : Option Addr) (n c k cb : Nat) (rows : List Int) (cs : List C) (w : World) (hr : Rd w A (vI rows)) (hl : rows.length = n) (hv : isReg W rows = true) (hrc : Rd w B (vC cs)) (hlc : cs.length = k) (hk : k ≤ 1048576) (hs : ∀ d ∈ cs, small d) :
    Calls Tryz.prog 72 #[.agg #[.int .i64 W, .slice A n c], .slice B k cb] w (Ret w (mcR (mcV W rows cs 0))) := by
  have hv0 := hv
  obtain ⟨m, rfl, hm1, hm6, hn1, hn6, hrow⟩ := isReg_yes hv
  have h36 : m * rows.length ≤ 6 * 6 := Nat.mul_le_mul hm6 hn6
  have HL := Lib.hid hl
  have HV := Lib.hid hv0
  have HR := Lib.hid (hr.alloc (.cells #[.int .i64 (m : Int), .slice A n c] 29))
  have HRC := Lib.hid (hrc.alloc (.cells #[.int .i64 (m : Int), .slice A n c] 29))
  have HLC := Lib.hid hlc
  have HS := Lib.hid hs
  have H36 : Hid (m * rows.length ≤ 36) := h36
  have hmt : ((m : Int)).toNat = m := Int.toNat_natCast _
  have HMT := Lib.hid hmt
  clear hl hr hrow hv hv0 hrc hlc hs h36 hn1 hn6 hmt
  go_enter Tryz.func72, Tryz.ntmps72
  go_wp2_with fail
  refine (IsRegion_i _ _ _ _ rows _ HR.out HL.out).mono ?_
  rw [HV.out]
  rintro e w1 ⟨rfl, hb1⟩
  have HB1 := Lib.hid ((Blk.new w 29 #[.int .i64 (m : Int), .slice A n c]).below hb1)
  have HR1 := Lib.hid (HR.out.below hb1)
  have HRC1 := Lib.hid (HRC.out.below hb1)
  have hbw1 : Below w.heap.size w w1 := bel_trans (bel_alloc (Below.refl _ _) _) hb1
  clear hb1
  go_wp2_with fail
  go_loopw [14, 6] (fun e14 e6 wr => ∃ (i v : Nat), i ≤ k ∧ e14 = .int .i64 i ∧ e6 = .int .i64 (v : Int) ∧ v < 2 ^ (m * rows.length) ∧ mcV (m : Int) rows cs 0 = mcV (m : Int) rows (cs.drop i) v ∧ Below w1.heap.size w1 wr) (fun e14 _ _ => k - (intOf e14).toNat)
  case atStart => exact ⟨0, 0, Nat.zero_le _, rfl, rfl, Nat.pow_pos (by decide), rfl, Below.refl _ _⟩
  case round =>
    obtain ⟨i, v, hi, rfl, rfl, hvl, hmc, hb⟩ := hrel
    have hv36 : v < 2 ^ 36 := Nat.lt_of_lt_of_le hvl (Nat.pow_le_pow_right (by decide) H36.out)
    by_cases hlt : i < k
    · have hkl : i < cs.length := by rw [HLC.out]; exact hlt
      have hi0 : (0 : Int) ≤ (i : Int) := by omega
      have hi1 : (i : Int) < (k : Int) := by omega
      obtain ⟨g, off, hA, hg, d1, d2⟩ := RdC.at_ (HRC1.out.below hb) hkl
      have hsm := HS.out _ (List.getElem_mem hkl)
      rw [List.drop_eq_getElem_cons hkl] at hmc
      obtain ⟨x, hx⟩ : ∃ x, cs[i].1 = x := ⟨_, rfl⟩
      obtain ⟨y, hy⟩ : ∃ y, cs[i].2 = y := ⟨_, rfl⟩
      rw [show cs[i] = (x, y) from Prod.ext hx hy] at hmc hsm
      rw [hx] at d1
      rw [hy] at d2
      unfold small at hsm
      simp only at hsm
      have hNO : (hasR (m : Int) rows (x, y) && !v.testBit (posM m (x, y))) = false → mcV (m : Int) rows cs 0 = none := fun h => by rw [hmc]; exact mcV_no (by rw [HMT.out]; exact h)
      have hYES : (hasR (m : Int) rows (x, y) && !v.testBit (posM m (x, y))) = true → mcV (m : Int) rows cs 0 = mcV (m : Int) rows (cs.drop (i + 1)) (v + 2 ^ posM m (x, y)) := fun h => by rw [hmc, mcV_yes (by rw [HMT.out]; exact h), HMT.out]
      have HNO := Lib.hid hNO
      have HYES := Lib.hid hYES
      have HSX := Lib.hid hsm.1
      have HSY := Lib.hid hsm.2
      have hB := HB1.out.below hb
      have b0 : wr.cell? ⟨w.heap.size, 0, none⟩ = some (.int .i64 (m : Int)) := by simpa using hB.cell 0
      have b1 : wr.cell? ⟨w.heap.size, 1, none⟩ = some (.slice A n c) := by simpa using hB.cell 1
      have hgw := hB.lt
      have HVL := Lib.hid hvl
      subst hA
      clear hmc hx hy hsm hB hNO hYES hvl
      cases hh : hasR (m : Int) rows (x, y) with
      | false =>
        have HH := Lib.hid hh
        have HN := Lib.hid (HNO.out (by rw [hh]; rfl))
        clear hh HNO HYES
        go_wp2_with fail
        refine (has_i (m : Int) A n c rows x y _ ((HR1.out.below hb).alloc _) HL.out HV.out HSX.out HSY.out).mono ?_
        rw [HH.out]
        rintro e w2 ⟨rfl, hb2⟩
        go_wp2_with fail
        go_ret2
        exact ⟨by rw [HN.out]; rfl, bel_trans hbw1 (bel_trans hb (bel_trans (bel_alloc (Below.refl _ _) _) hb2))⟩
      | true =>
        have HH := Lib.hid hh
        obtain ⟨p, q, s, j, rfl, rfl, hpm, hs, hj, hpos, hj36, hjl, hs36⟩ := mc_num H36.out hh (n := n)
        have hj0 : (0 : Int) ≤ (j : Int) := by omega
        have hj64 : (j : Int) ≤ 64 := by omega
        have hv62 : v < 2 ^ 62 := by omega
        have hbit := bit_testP v j hv62
        obtain ⟨d, hd⟩ : ∃ d, v / 2 ^ j = d := ⟨_, rfl⟩
        have hdI : (v : Int) / 2 ^ j = (d : Int) := by rw [← hd]; simp
        rw [hdI] at hbit
        have es : IntKind.i64.wrap (s : Int) = (s : Int) := Go.IntWalk.i64_in _ (by omega)
        have ej : IntKind.i64.wrap (j : Int) = (j : Int) := Go.IntWalk.i64_in _ (by omega)
        have h2j : (2 : Nat) ^ j < 2 ^ 36 := Nat.pow_lt_pow_right (by decide) hj36
        obtain ⟨t, ht⟩ : ∃ t : Nat, 2 ^ j = t := ⟨_, rfl⟩
        have htI : (2 : Int) ^ j = (t : Int) := by rw [← ht]; simp
        have hdT : (v : Int) / (t : Int) = (d : Int) := by rw [← htI]; exact hdI
        clear hdI
        rw [hpos] at HNO HYES
        rw [ht] at HYES
        have hTT : v.testBit j = false → v ||| t = v + t ∧ v + t < 2 ^ (m * rows.length) := fun h => by
          have h1 := or_bit hv62 (by omega) h
          rw [ht] at h1
          refine ⟨h1, ?_⟩
          rw [← h1, ← ht]
          exact Nat.or_lt_two_pow HVL.out (Nat.pow_lt_pow_right (by decide) hjl)
        have HTT := Lib.hid hTT
        rw [ht] at h2j
        clear hh hpos hd ht hTT
        cases hb2 : v.testBit j with
        | true =>
          have HN := Lib.hid (HNO.out (by rw [HH.out, hb2]; rfl))
          rw [hb2] at hbit
          clear hb2 HNO HYES HTT
          go_wp2_with fail
          refine (has_i (m : Int) A n c rows (p : Int) (q : Int) _ ((HR1.out.below hb).alloc _) HL.out HV.out HSX.out HSY.out).mono ?_
          rw [HH.out]
          rintro e w2 ⟨rfl, hb2⟩
          have hDK := (Blk.new wr 66 #[.int .i64 (p : Int), .int .i64 (q : Int)]).below hb2
          have c0 : w2.cell? ⟨wr.heap.size, 0, none⟩ = some (.int .i64 (p : Int)) := by simpa using hDK.cell 0
          have c1 : w2.cell? ⟨wr.heap.size, 1, none⟩ = some (.int .i64 (q : Int)) := by simpa using hDK.cell 1
          have cl := hDK.lt
          have y0 := keep_below hb2 (keep_alloc (o := .cells #[.int .i64 (p : Int), .int .i64 (q : Int)] 66) b0)
          have yl : w.heap.size < w2.heap.size := by omega
          clear hDK d1 d2 b0 b1
          go_wp2_with fail
          go_ret2
          exact ⟨by rw [HN.out]; rfl, bel_trans hbw1 (bel_trans hb (bel_trans (bel_alloc (Below.refl _ _) _) hb2))⟩
        | false =>
          have HN := Lib.hid (HYES.out (by rw [HH.out, hb2]; rfl))
          rw [hb2] at hbit
          obtain ⟨h1, h2⟩ := HTT.out hb2
          have hor : bits .or .i64 (v : Int) (t : Int) = ((v + t : Nat) : Int) := by rw [i64_or v t (by omega) (by omega), h1]
          have H2 := Lib.hid h2
          have HOR := Lib.hid hor
          clear hb2 HNO HYES HTT h1 h2 hor
          go_wp2_with fail
          refine (has_i (m : Int) A n c rows (p : Int) (q : Int) _ ((HR1.out.below hb).alloc _) HL.out HV.out HSX.out HSY.out).mono ?_
          rw [HH.out]
          rintro e w2 ⟨rfl, hb2⟩
          have hDK := (Blk.new wr 66 #[.int .i64 (p : Int), .int .i64 (q : Int)]).below hb2
          have c0 : w2.cell? ⟨wr.heap.size, 0, none⟩ = some (.int .i64 (p : Int)) := by simpa using hDK.cell 0
          have c1 : w2.cell? ⟨wr.heap.size, 1, none⟩ = some (.int .i64 (q : Int)) := by simpa using hDK.cell 1
          have cl := hDK.lt
          have y0 := keep_below hb2 (keep_alloc (o := .cells #[.int .i64 (p : Int), .int .i64 (q : Int)] 66) b0)
          have yl : w.heap.size < w2.heap.size := by omega
          have hor := HOR.out
          clear hDK d1 d2 b0 b1
          go_wp2_with fail
          exact ⟨⟨i + 1, v + t, by omega, by go_num, rfl, H2.out, HN.out, bel_trans hb (bel_trans (bel_alloc (Below.refl _ _) _) hb2)⟩, by simp [intOf]; omega⟩
    · obtain rfl : i = k := by omega
      rw [List.drop_of_length_le (by rw [HLC.out]; omega)] at hmc
      have HN := Lib.hid hmc
      have hi1 : ¬ (i : Int) < (i : Int) := by omega
      clear hmc hvl
      go_wp2_with fail
      go_ret2
      exact ⟨by rw [HN.out]; rfl, bel_trans hbw1 hb⟩
set_option maxRecDepth 100000 in
set_option maxHeartbeats 3200000 in
theorem MaskOfCells_s (W : Int) (A B : Option Addr) (n c k cb : Nat) (rows : List Int) (cs : List C) (w : World) (hr : Rd w A (vI rows)) (hl : rows.length = n) (hv : isReg W rows = true) (hrc : Rd w B (vC cs)) (hlc : cs.length = k) (hk : k ≤ 1048576) (hs : ∀ d ∈ cs, small d) :
    Calls Tryz.prog 76 #[.agg #[.int .i64 W, .slice A n c], .slice B k cb] w (Ret w (mcR (mcV W rows cs 0))) := by
  have hv0 := hv
  obtain ⟨m, rfl, hm1, hm6, hn1, hn6, hrow⟩ := isReg_yes hv
  have h36 : m * rows.length ≤ 6 * 6 := Nat.mul_le_mul hm6 hn6
  have HL := Lib.hid hl
  have HV := Lib.hid hv0
  have HR := Lib.hid (hr.alloc (.cells #[.int .i64 (m : Int), .slice A n c] 29))
  have HRC := Lib.hid (hrc.alloc (.cells #[.int .i64 (m : Int), .slice A n c] 29))
  have HLC := Lib.hid hlc
  have HS := Lib.hid hs
  have H36 : Hid (m * rows.length ≤ 36) := h36
  have hmt : ((m : Int)).toNat = m := Int.toNat_natCast _
  have HMT := Lib.hid hmt
  have HB1 := Lib.hid (Blk.new w 29 #[.int .i64 (m : Int), .slice A n c])
  have hbw1 : Below w.heap.size w (w.alloc (.cells #[.int .i64 (m : Int), .slice A n c] 29)) := bel_alloc (Below.refl _ _) _
  clear hl hr hrow hv hv0 hrc hlc hs h36 hn1 hn6 hmt
  go_enter Tryz.func76, Tryz.ntmps76
  go_wp2_with fail
  obtain ⟨w1, hw1⟩ : ∃ w1, w.alloc (.cells #[.int .i64 (m : Int), .slice A n c] 29) = w1 := ⟨_, rfl⟩
  rw [hw1] at HR HRC HB1 hbw1 ⊢
  clear hw1
  go_loopw [7, 6] (fun e14 e6 wr => ∃ (i v : Nat), i ≤ k ∧ e14 = .int .i64 i ∧ e6 = .int .i64 (v : Int) ∧ v < 2 ^ (m * rows.length) ∧ mcV (m : Int) rows cs 0 = mcV (m : Int) rows (cs.drop i) v ∧ Below w1.heap.size w1 wr) (fun e14 _ _ => k - (intOf e14).toNat)
  case atStart => exact ⟨0, 0, Nat.zero_le _, rfl, rfl, Nat.pow_pos (by decide), rfl, Below.refl _ _⟩
  case round =>
    obtain ⟨i, v, hi, rfl, rfl, hvl, hmc, hb⟩ := hrel
    have hv36 : v < 2 ^ 36 := Nat.lt_of_lt_of_le hvl (Nat.pow_le_pow_right (by decide) H36.out)
    have hB := HB1.out.below hb
    have b0 : wr.cell? ⟨w.heap.size, 0, none⟩ = some (.int .i64 (m : Int)) := by simpa using hB.cell 0
    have b1 : wr.cell? ⟨w.heap.size, 1, none⟩ = some (.slice A n c) := by simpa using hB.cell 1
    have hgw := hB.lt
    clear hB
    by_cases hlt : i < k
    · have hkl : i < cs.length := by rw [HLC.out]; exact hlt
      have hi0 : (0 : Int) ≤ (i : Int) := by omega
      have hi1 : (i : Int) < (k : Int) := by omega
      obtain ⟨g, off, hA, hg, d1, d2⟩ := RdC.at_ (HRC.out.below hb) hkl
      have hsm := HS.out _ (List.getElem_mem hkl)
      rw [List.drop_eq_getElem_cons hkl] at hmc
      obtain ⟨x, hx⟩ : ∃ x, cs[i].1 = x := ⟨_, rfl⟩
      obtain ⟨y, hy⟩ : ∃ y, cs[i].2 = y := ⟨_, rfl⟩
      rw [show cs[i] = (x, y) from Prod.ext hx hy] at hmc hsm
      rw [hx] at d1
      rw [hy] at d2
      unfold small at hsm
      simp only at hsm
      have hNO : (hasR (m : Int) rows (x, y) && !v.testBit (posM m (x, y))) = false → mcV (m : Int) rows cs 0 = none := fun h => by rw [hmc]; exact mcV_no (by rw [HMT.out]; exact h)
      have hYES : (hasR (m : Int) rows (x, y) && !v.testBit (posM m (x, y))) = true → mcV (m : Int) rows cs 0 = mcV (m : Int) rows (cs.drop (i + 1)) (v + 2 ^ posM m (x, y)) := fun h => by rw [hmc, mcV_yes (by rw [HMT.out]; exact h), HMT.out]
      have HNO := Lib.hid hNO
      have HYES := Lib.hid hYES
      have HSX := Lib.hid hsm.1
      have HSY := Lib.hid hsm.2
      have HVL := Lib.hid hvl
      subst hA
      clear hmc hx hy hsm hNO hYES hvl
      cases hh : hasR (m : Int) rows (x, y) with
      | false =>
        have HIR : Hid (∀ w0, Below wr.heap.size wr w0 → Calls Tryz.prog 91 #[.agg #[.int .i64 (m : Int), .slice A n c], .int .i64 x, .int .i64 y] w0 (Ret w0 (.bool false))) := fun w0 h => by
          have h2 := InRegion_s (m : Int) A n c rows x y w0 ((HR.out.below hb).below h) HL.out HSX.out HSY.out
          rw [HV.out, hh] at h2
          exact h2
        have HN := Lib.hid (HNO.out (by rw [hh]; rfl))
        clear hh HNO HYES
        go_wp2_with fail
        (refine wp_region_below (by kernel_rfl) (by kernel_rfl) ?_; (repeat (first | go_big_quiet_skip | (refine quietV (v := ?_) (by rfl) rfl (fun w' hbw => ?_) ?_; rotate_left; ((try dsimp only at hbw); have hbc := (bcell hbw).1; have hbf := (bcell hbw).2; go_simp; first | done | with_reducible rfl | (with_reducible exact callsB (v := .bool false) (HIR.out _ hbw) hbw)); simp only [List.setIfInBounds_toArray, List.set_cons_zero, List.set_cons_succ]))); refine wpQuiet_nil ?_; intro wq hbq)
        go_wp2_with fail
        go_ret2
        exact ⟨by rw [HN.out]; rfl, bel_trans hbw1 (bel_trans hb hbq)⟩
      | true =>
        have HH := Lib.hid hh
        obtain ⟨p, q, s, j, rfl, rfl, hpm, hs, hj, hpos, hj36, hjl, hs36⟩ := mc_num H36.out hh (n := n)
        have HIR : Hid (∀ w0, Below wr.heap.size wr w0 → Calls Tryz.prog 91 #[.agg #[.int .i64 (m : Int), .slice A n c], .int .i64 (p : Int), .int .i64 (q : Int)] w0 (Ret w0 (.bool true))) := fun w0 h => by
          have h2 := InRegion_s (m : Int) A n c rows (p : Int) (q : Int) w0 ((HR.out.below hb).below h) HL.out HSX.out HSY.out
          rw [HV.out, hh] at h2
          exact h2
        have hj0 : (0 : Int) ≤ (j : Int) := by omega
        have hj64 : (j : Int) ≤ 64 := by omega
        have hv62 : v < 2 ^ 62 := by omega
        have hbit := bit_testP v j hv62
        obtain ⟨d, hd⟩ : ∃ d, v / 2 ^ j = d := ⟨_, rfl⟩
        have hdI : (v : Int) / 2 ^ j = (d : Int) := by rw [← hd]; simp
        rw [hdI] at hbit
        have es : IntKind.i64.wrap (s : Int) = (s : Int) := Go.IntWalk.i64_in _ (by omega)
        have ej : IntKind.i64.wrap (j : Int) = (j : Int) := Go.IntWalk.i64_in _ (by omega)
        have h2j : (2 : Nat) ^ j < 2 ^ 36 := Nat.pow_lt_pow_right (by decide) hj36
        obtain ⟨t, ht⟩ : ∃ t : Nat, 2 ^ j = t := ⟨_, rfl⟩
        have htI : (2 : Int) ^ j = (t : Int) := by rw [← ht]; simp
        have hdT : (v : Int) / (t : Int) = (d : Int) := by rw [← htI]; exact hdI
        rw [hpos] at HNO HYES
        rw [ht] at HYES
        have hTT : v.testBit j = false → v + t < 2 ^ (m * rows.length) := fun h => by
          have h1 := or_bit hv62 (by omega) h
          rw [ht] at h1
          rw [← h1, ← ht]
          exact Nat.or_lt_two_pow HVL.out (Nat.pow_lt_pow_right (by decide) hjl)
        have HTT := Lib.hid hTT
        rw [ht] at h2j
        have et : IntKind.i64.wrap (t : Int) = (t : Int) := Go.IntWalk.i64_in _ (by omega)
        obtain ⟨u, hu⟩ : ∃ u, u = v + t := ⟨_, rfl⟩
        have huI : (v : Int) + (t : Int) = (u : Int) := by omega
        have eu : IntKind.i64.wrap (u : Int) = (u : Int) := Go.IntWalk.i64_in _ (by omega)
        rw [← hu] at HTT HYES
        clear hh hpos hd ht hTT hu hdI
        cases hb2 : v.testBit j with
        | true =>
          have HN := Lib.hid (HNO.out (by rw [HH.out, hb2]; rfl))
          rw [hb2] at hbit
          clear hb2 HNO HYES HTT
          go_wp2_with fail
          (refine wp_region_below (by kernel_rfl) (by kernel_rfl) ?_; (repeat (first | go_big_quiet_skip | (refine quietV (v := ?_) (by rfl) rfl (fun w' hbw => ?_) ?_; rotate_left; ((try dsimp only at hbw); have hbc := (bcell hbw).1; have hbf := (bcell hbw).2; go_simp; first | done | with_reducible rfl | (with_reducible exact callsB (v := .bool true) (HIR.out _ hbw) hbw)); simp only [List.setIfInBounds_toArray, List.set_cons_zero, List.set_cons_succ]))); refine wpQuiet_nil ?_; intro wq hbq)
          go_wp2_with fail
          go_ret2
          exact ⟨by rw [HN.out]; rfl, bel_trans hbw1 (bel_trans hb hbq)⟩
        | false =>
          have HN := Lib.hid (HYES.out (by rw [HH.out, hb2]; rfl))
          rw [hb2] at hbit
          have H2 := Lib.hid (HTT.out hb2)
          clear hb2 HNO HYES HTT
          go_wp2_with fail
          (refine wp_region_below (by kernel_rfl) (by kernel_rfl) ?_; (repeat (first | go_big_quiet_skip | (refine quietV (v := ?_) (by rfl) rfl (fun w' hbw => ?_) ?_; rotate_left; ((try dsimp only at hbw); have hbc := (bcell hbw).1; have hbf := (bcell hbw).2; go_simp; first | done | with_reducible rfl | (with_reducible exact callsB (v := .bool true) (HIR.out _ hbw) hbw)); simp only [List.setIfInBounds_toArray, List.set_cons_zero, List.set_cons_succ]))); refine wpQuiet_nil ?_; intro wq hbq)
          have b0' := keep_below hbq b0
          have d1' := keep_below hbq d1
          have d2' := keep_below hbq d2
          have hgw' : w.heap.size < wq.heap.size := Nat.lt_of_lt_of_le hgw hbq.size
          have hg' : g < wq.heap.size := Nat.lt_of_lt_of_le hg hbq.size
          clear b0 b1 d1 d2 HIR
          go_wp2_with fail
          (refine wp_region_below (by kernel_rfl) (by kernel_rfl) ?_; (repeat (first | go_big_quiet_skip | (refine quietV (v := ?_) (by rfl) rfl (fun w' hbw => ?_) ?_; rotate_left; ((try dsimp only at hbw); have hbc := (bcell hbw).1; have hbf := (bcell hbw).2; go_simp; first | done | with_reducible rfl | fail); simp only [List.setIfInBounds_toArray, List.set_cons_zero, List.set_cons_succ]))); refine wpQuiet_nil ?_; intro wz hbz)
          go_wp2_with fail
          exact ⟨⟨i + 1, u, by omega, by go_num, by first | rfl | (simp <;> omega), H2.out, HN.out, bel_trans hb (bel_trans hbq hbz)⟩, by simp [intOf]; omega⟩
    · obtain rfl : i = k := by omega
      rw [List.drop_of_length_le (by rw [HLC.out]; omega)] at hmc
      have HN := Lib.hid hmc
      have hi1 : ¬ (i : Int) < (i : Int) := by omega
      clear hmc hvl
      go_wp2_with fail
      refine (IsRegion_s _ _ _ _ rows _ (HR.out.below hb) HL.out).mono ?_
      rw [HV.out]
      rintro e w2 ⟨rfl, hb2⟩
      go_wp2_with fail
      go_ret2
      exact ⟨by rw [HN.out]; rfl, bel_trans hbw1 (bel_trans hb hb2)⟩
end Go.Proofs.YtoedmmhiinhljaaGreatDoor

/- Insertion sort by exchanges of neighbours, on lists. No program is in sight. -/
namespace Go.Proofs.YtoedmmhiinhljaaGreatDoor
open Go.RowKit
set_option linter.unusedVariables false
section
variable {α : Type} [Inhabited α] {lt : α → α → Bool}
/-- The elements at i and j exchanged. -/
def swL (l : List α) (i j : Nat) : List α := (l.set i (l.getD j default)).set j (l.getD i default)
theorem swL_len (l : List α) (i j : Nat) : (swL l i j).length = l.length := by simp [swL]
theorem getD_in (l : List α) {i : Nat} (h : i < l.length) : l.getD i default = l[i] := by rw [List.getD_eq_getElem?_getD, List.getElem?_eq_getElem h]; rfl
theorem swL_get (l : List α) {i j : Nat} (hi : i < l.length) (hj : j < l.length) (k : Nat) : (swL l i j).getD k default = if k = j then l.getD i default else if k = i then l.getD j default else l.getD k default := by
  unfold swL
  simp only [List.getD_eq_getElem?_getD, List.getElem?_set, List.length_set]
  by_cases h1 : j = k
  · subst h1
    simp [hj]
  · simp only [if_neg h1]
    rw [if_neg (Ne.symm h1)]
    by_cases h2 : i = k
    · subst h2
      simp [hi]
    · simp only [if_neg h2]
      rw [if_neg (Ne.symm h2)]
theorem swL_mem (l : List α) {i j : Nat} (hi : i < l.length) (hj : j < l.length) (x : α) : x ∈ swL l i j ↔ x ∈ l := by
  have key : ∀ (l : List α) (i j : Nat), i < l.length → j < l.length → x ∈ swL l i j → x ∈ l := by
    intro l i j hi hj h
    obtain ⟨k, hk, rfl⟩ := List.mem_iff_getElem.1 h
    rw [← getD_in _ hk, swL_get l hi hj]
    split
    · exact getD_mem hi
    · split
      · exact getD_mem hj
      · exact getD_mem (by rw [swL_len] at hk; exact hk)
  refine ⟨key l i j hi hj, fun h => ?_⟩
  obtain ⟨k, hk, rfl⟩ := List.mem_iff_getElem.1 h
  rw [← getD_in _ hk]
  have hm : ∀ q, q < l.length → (swL l i j).getD q default ∈ swL l i j := fun q hq => getD_mem (by rw [swL_len]; exact hq)
  by_cases h1 : k = i
  · subst h1
    have := hm j hj
    rwa [swL_get l hi hj, if_pos rfl] at this
  · by_cases h2 : k = j
    · subst h2
      have := hm i hi
      rw [swL_get l hi hj] at this
      by_cases h3 : i = k
      · exact absurd h3.symm h1
      · rwa [if_neg h3, if_pos rfl] at this
    · have := hm k hk
      rwa [swL_get l hi hj, if_neg h2, if_neg h1] at this
/-- The first i + 1 elements are in order but for the one at j, that may be less than some ahead of it. -/
def NearO (lt : α → α → Bool) (l : List α) (i j : Nat) : Prop := ∀ a b, a < b → b ≤ i → b ≠ j → lt (l.getD b default) (l.getD a default) = false
def OrdTo (lt : α → α → Bool) (l : List α) (i : Nat) : Prop := ∀ a b, a < b → b < i → lt (l.getD b default) (l.getD a default) = false
theorem OrdTo.start (l : List α) : OrdTo lt l 1 := fun a b h1 h2 => by omega
theorem OrdTo.near {l : List α} {i : Nat} (h : OrdTo lt l i) : NearO lt l i i := fun a b h1 h2 h3 => h a b h1 (by omega)
theorem NearO.zero {l : List α} {i : Nat} (h : NearO lt l i 0) : OrdTo lt l (i + 1) := fun a b h1 h2 => h a b h1 (by omega) (by omega)
theorem NearO.stop (hO : STO lt) {l : List α} {i j : Nat} (h : NearO lt l i (j + 1)) (hji : j + 1 ≤ i) (hl : lt (l.getD (j + 1) default) (l.getD j default) = false) : OrdTo lt l (i + 1) := by
  intro a b h1 h2
  by_cases hb : b = j + 1
  · subst hb
    by_cases ha : a = j
    · subst ha; exact hl
    · have h3 := h a j (by omega) (by omega) (by omega)
      cases hc : lt (l.getD (j + 1) default) (l.getD a default) with
      | false => rfl
      | true =>
        exfalso
        cases hd : lt (l.getD a default) (l.getD j default) with
        | true => rw [hO.trans hc hd] at hl; cases hl
        | false => rw [hO.tot hd h3] at hc; rw [hc] at hl; cases hl
  · exact h a b h1 (by omega) hb
theorem NearO.step (hO : STO lt) {l : List α} {i j : Nat} (h : NearO lt l i (j + 1)) (hji : j + 1 ≤ i) (hil : i < l.length) (hl : lt (l.getD (j + 1) default) (l.getD j default) = true) : NearO lt (swL l (j + 1) j) i j := by
  have hj1 : j + 1 < l.length := by omega
  have hj : j < l.length := by omega
  intro a b h1 h2 h3
  rw [swL_get l hj1 hj, swL_get l hj1 hj, if_neg h3]
  by_cases hb : b = j + 1
  · rw [if_pos hb]
    by_cases ha : a = j
    · rw [if_pos ha]; exact hO.asym hl
    · rw [if_neg ha, if_neg (by omega)]
      exact h a j (by omega) (by omega) (by omega)
  · rw [if_neg hb]
    by_cases ha : a = j
    · rw [if_pos ha]
      exact h (j + 1) b (by omega) h2 hb
    · rw [if_neg ha]
      by_cases ha2 : a = j + 1
      · rw [if_pos ha2]
        exact h j b (by omega) h2 hb
      · rw [if_neg ha2]
        exact h a b h1 h2 hb
theorem OrdTo.done {l : List α} (h : OrdTo lt l l.length) : l.Pairwise (fun a b => lt b a = false) := by
  rw [List.pairwise_iff_getElem]
  intro i j hi hj hij
  have := h i j hij hj
  rwa [getD_in l hj, getD_in l hi] at this
end
end Go.Proofs.YtoedmmhiinhljaaGreatDoor

/- Cells moved to their corner: the reference. -/
namespace Go.Proofs.YtoedmmhiinhljaaGreatDoor
open Go.RowKit
set_option linter.unusedVariables false
attribute [local go_sem ↓] Go.wp_at_zero Go.wp_at_succ

set_option maxHeartbeats 3200000 in
theorem l2Corner_s (A : Option Addr) (n c : Nat) (xs : List C) (w : World) (hr : Rd w A (vC xs)) (hl : xs.length = n) (hn : n ≤ 1048576) (hs : ∀ d ∈ xs, small d) :
    Calls Tryz.prog 114 #[.slice A n c] w (RetS w 66 2 (vC (cornS xs))) := by
  have hms : 0 < n → (-1000 ≤ minTo (·.1) xs n ∧ minTo (·.1) xs n ≤ 1000) ∧ (-1000 ≤ minTo (·.2) xs n ∧ minTo (·.2) xs n ≤ 1000) := by
    intro h0
    have := minC_small (by omega) hs
    unfold minC at this
    rwa [hl] at this
  have hV : ∀ px py, (n = 0 ∧ px = 0 ∧ py = 0 ∨ 0 < n ∧ px = minTo (·.1) xs n ∧ py = minTo (·.2) xs n) → mv xs (-px) (-py) = cornS xs := by
    intro px py h
    rcases h with ⟨h1, _, _⟩ | ⟨h1, h2, h3⟩
    · rw [List.eq_nil_of_length_eq_zero (hl.trans h1)]; rfl
    · unfold cornS minC; rw [hl, h2, h3]
  have HV := Lib.hid hV
  have HL := Lib.hid hl
  have HS := Lib.hid hs
  have HMS := Lib.hid hms
  have HR := Lib.hid hr
  have hini := own_new w 66 2 0 #[] rfl (by simp [maxLen]) (base := w.heap.size) (Nat.le_refl _)
  have HI0 := Lib.hid hini
  clear hini hl hs hms hr hV
  go_enter Tryz.func114, Tryz.ntmps114
  go_wp2
  go_loopw [4, 5, 6] (fun e4 e5 e6 wr => ∃ (k : Nat) (px py : Int), k ≤ n ∧ e4 = .int .i64 px ∧ e5 = .int .i64 py ∧ e6 = .int .i64 k ∧ (k = 0 ∧ px = 0 ∧ py = 0 ∨ 0 < k ∧ px = minTo (·.1) xs k ∧ py = minTo (·.2) xs k) ∧ Below (w.alloc (.cells #[] 66)).heap.size (w.alloc (.cells #[] 66)) wr) (fun _ _ e6 _ => n - (intOf e6).toNat)
  case atStart => exact ⟨0, 0, 0, Nat.zero_le _, rfl, rfl, rfl, .inl ⟨rfl, rfl, rfl⟩, Below.refl _ _⟩
  case round =>
    obtain ⟨k, px, py, hk, rfl, rfl, rfl, hp, hb⟩ := hrel
    have HP := Lib.hid hp
    clear hp
    have hbw : Below w.heap.size w wr := (by (repeat (first | with_reducible exact Below.refl _ _ | with_reducible assumption | with_reducible apply bel_alloc | with_reducible apply bel_drew | with_reducible apply bel_drewN | ((with_reducible refine bel_set ?_ ?_); rotate_left; (simp <;> omega)) | (with_reducible refine bel_trans ?_ (by with_reducible assumption)))))
    by_cases hlt : k < n
    · have hkl : k < xs.length := by rw [HL.out]; exact hlt
      have hk0 : (0 : Int) ≤ (k : Int) := by omega
      have hk1 : (k : Int) < (n : Int) := by omega
      obtain ⟨g, off, hA, hg, d1, d2⟩ := RdC.at_ (HR.out.below hbw) hkl
      subst hA
      obtain ⟨p, hp⟩ : ∃ p, xs[k].1 = p := ⟨_, rfl⟩
      obtain ⟨q, hq⟩ : ∃ q, xs[k].2 = q := ⟨_, rfl⟩
      rw [hp] at d1
      rw [hq] at d2
      have S1 : Hid (minTo (·.1) xs (k + 1) = if p < minTo (·.1) xs k then p else minTo (·.1) xs k) := by show minTo (·.1) xs (k + 1) = _; rw [minTo, getD_in xs hkl, hp]
      have S2 : Hid (minTo (·.2) xs (k + 1) = if q < minTo (·.2) xs k then q else minTo (·.2) xs k) := by show minTo (·.2) xs (k + 1) = _; rw [minTo, getD_in xs hkl, hq]
      by_cases hz : k = 0
      · have M0 : Hid (minTo (·.1) xs k = p ∧ minTo (·.2) xs k = q) := by
          show _ ∧ _
          subst hz
          exact ⟨by show (xs.getD 0 default).1 = p; rw [getD_in xs hkl, hp], by show (xs.getD 0 default).2 = q; rw [getD_in xs hkl, hq]⟩
        have e0 : ((k : Int) == 0) = true := by simp [hz]
        clear hz hp hq
        have T1 : Hid (minTo (·.1) xs (k + 1) = p) := by show _ = _; rw [S1.out]; rw [show minTo (·.1) xs k = p from M0.out.1]; exact ite_self _
        have T2 : Hid (minTo (·.2) xs (k + 1) = q) := by show _ = _; rw [S2.out]; rw [show minTo (·.2) xs k = q from M0.out.2]; exact ite_self _
        go_wp2_with fail
        exact ⟨⟨k + 1, p, q, by omega, rfl, rfl, by go_num, .inr ⟨by omega, T1.out.symm, T2.out.symm⟩, hb⟩, by simp [intOf]; omega⟩
      · have e0 : ((k : Int) == 0) = false := by simp; omega
        have hkz : ¬ k = 0 := hz
        have hpp : px = minTo (·.1) xs k ∧ py = minTo (·.2) xs k := by
          rcases HP.out with ⟨h1, _, _⟩ | ⟨_, h2, h3⟩
          · exact absurd h1 hz
          · exact ⟨h2, h3⟩
        have HPX := Lib.hid hpp.1
        have HPY := Lib.hid hpp.2
        clear hz hp hq hpp
        by_cases h1 : p < px
        · by_cases h2 : q < py
          · have T1 : Hid (minTo (·.1) xs (k + 1) = p) := by show _ = _; rw [S1.out, ← HPX.out]; exact if_pos h1
            have T2 : Hid (minTo (·.2) xs (k + 1) = q) := by show _ = _; rw [S2.out, ← HPY.out]; exact if_pos h2
            go_wp2_with fail
            exact ⟨⟨k + 1, p, q, by omega, rfl, rfl, by go_num, .inr ⟨by omega, T1.out.symm, T2.out.symm⟩, hb⟩, by simp [intOf]; omega⟩
          · have h2d : decide (q < py) = false := by simp; omega
            have T1 : Hid (minTo (·.1) xs (k + 1) = p) := by show _ = _; rw [S1.out, ← HPX.out]; exact if_pos h1
            have T2 : Hid (minTo (·.2) xs (k + 1) = py) := by show _ = _; rw [S2.out, ← HPY.out]; exact if_neg h2
            go_wp2_with fail
            exact ⟨⟨k + 1, p, py, by omega, rfl, rfl, by go_num, .inr ⟨by omega, T1.out.symm, T2.out.symm⟩, hb⟩, by simp [intOf]; omega⟩
        · have h1d : decide (p < px) = false := by simp; omega
          by_cases h2 : q < py
          · have T1 : Hid (minTo (·.1) xs (k + 1) = px) := by show _ = _; rw [S1.out, ← HPX.out]; exact if_neg h1
            have T2 : Hid (minTo (·.2) xs (k + 1) = q) := by show _ = _; rw [S2.out, ← HPY.out]; exact if_pos h2
            go_wp2_with fail
            exact ⟨⟨k + 1, px, q, by omega, rfl, rfl, by go_num, .inr ⟨by omega, T1.out.symm, T2.out.symm⟩, hb⟩, by simp [intOf]; omega⟩
          · have h2d : decide (q < py) = false := by simp; omega
            have T1 : Hid (minTo (·.1) xs (k + 1) = px) := by show _ = _; rw [S1.out, ← HPX.out]; exact if_neg h1
            have T2 : Hid (minTo (·.2) xs (k + 1) = py) := by show _ = _; rw [S2.out, ← HPY.out]; exact if_neg h2
            go_wp2_with fail
            exact ⟨⟨k + 1, px, py, by omega, rfl, rfl, by go_num, .inr ⟨by omega, T1.out.symm, T2.out.symm⟩, hb⟩, by simp [intOf]; omega⟩
    · obtain rfl : k = n := by omega
      have hk1 : ¬ (k : Int) < (k : Int) := by omega
      have hbnd : -1000 ≤ px ∧ px ≤ 1000 ∧ -1000 ≤ py ∧ py ≤ 1000 := by
        rcases HP.out with ⟨_, h1, h2⟩ | ⟨h0, h1, h2⟩
        · omega
        · have := HMS.out h0
          rw [← h1, ← h2] at this
          omega
      obtain ⟨q1, q2, q3, q4⟩ := hbnd
      have HVV := Lib.hid (HV.out px py HP.out)
      have HO0 := Lib.hid (own_keep HI0.out hb)
      clear hb
      go_wp2_with fail
      go_loopw [7, 3] (fun e7 e3 wr2 => ∃ (j cq : Nat) (D : Option Addr), j ≤ k ∧ e7 = .int .i64 j ∧ e3 = .slice D j cq ∧ wr2.ownsRow w.heap.size 66 2 (.slice D j cq) j (vC (mv (xs.take j) (-px) (-py))) ∧ Below w.heap.size w wr2) (fun e7 _ _ => k - (intOf e7).toNat)
      case atStart => exact ⟨0, 0, _, Nat.zero_le _, rfl, rfl, HO0.out, hbw⟩
      case round =>
        clear hbw
        obtain ⟨j, cq, D, hj, rfl, rfl, hown, hb⟩ := hrel
        by_cases hlt : j < k
        · have hkl : j < xs.length := by rw [HL.out]; exact hlt
          have hj0 : (0 : Int) ≤ (j : Int) := by omega
          have hj1 : (j : Int) < (k : Int) := by omega
          obtain ⟨g, off, hA, hg0, d1, d2⟩ := RdC.at_ HR.out hkl
          subst hA
          have hg : g < wr.heap.size := Nat.lt_of_lt_of_le hg0 hb.size
          replace d1 := (hb.cell (p := ⟨g, off + j * 2, none⟩) hg0).trans d1
          replace d2 := (hb.cell (p := ⟨g, off + j * 2 + 1, none⟩) hg0).trans d2
          have hgD : ¬ (some g = ob D) := fun e => by have := (own_lt hown g e.symm).1; omega
          have hst := mv_take xs (-px) (-py) j hkl
          have hsm := HS.out _ (List.getElem_mem hkl)
          obtain ⟨p, hp⟩ : ∃ p, xs[j].1 = p := ⟨_, rfl⟩
          obtain ⟨q, hq⟩ : ∃ q, xs[j].2 = q := ⟨_, rfl⟩
          unfold small at hsm
          rw [hp, hq] at hsm hst
          rw [hp] at d1
          rw [hq] at d2
          have e1 : IntKind.i64.wrap (p - px) = p - px := Go.IntWalk.i64_in _ (by omega)
          have e2 : IntKind.i64.wrap (q - py) = q - py := Go.IntWalk.i64_in _ (by omega)
          rw [← Int.sub_eq_add_neg, ← Int.sub_eq_add_neg] at hst
          have HST := Lib.hid hst
          have HO := Lib.hid hown
          have hbs := hb.size
          clear hst hown hp hq hsm
          go_wp2_with fail
          (refine wp_region_tailN (C := Gr wr D) 16 (by kernel_rfl) (by kernel_rfl) (Gr.drawn _ _) (fun _ _ h k => h.ext k) ?_; simp only [List.take_succ_cons, List.take_zero, List.drop_succ_cons, List.drop_zero]; (repeat (first | (refine headSkip (by rfl) rfl ?_; simp only [List.setIfInBounds_toArray, List.set_cons_zero, List.set_cons_succ]) | (refine headV (v := ?_) (by rfl) rfl (fun w' hcw => ?_) ?_; rotate_left; ((try dsimp only at hcw); have hbc := hcw.cells; go_simp; first | done | with_reducible rfl | fail); simp only [List.setIfInBounds_toArray, List.set_cons_zero, List.set_cons_succ]))); unfold wpHead)
          (refine tailK (by rfl) (fun w3 hc3 he3 K hK => ?_); go_simp; refine hK _ _ (hc3.ext (by (repeat (first | with_reducible exact Below.refl _ _ | with_reducible assumption | with_reducible apply bel_alloc | with_reducible apply bel_drew | with_reducible apply bel_drewN | ((with_reducible refine bel_set ?_ ?_); rotate_left; (simp <;> omega)) | (with_reducible refine bel_trans ?_ (by with_reducible assumption)))))) ?_; clear hK K)
          (refine tailK (by rfl) (fun w4 hc4 he4 K hK => ?_); refine wpC _ _ _ rfl w.heap.size D j cq (mv (xs.take j) (-px) (-py)) rfl (own_keep ((own_keep HO.out he3).alloc _) he4) _ 1 1 [(p - px, q - py)] rfl (Rd.below (rd_newC _ _ _ _) he4) rfl (by omega) (by have h2 := he3.size; have h3 := he4.size; simp at h3; omega) ?_; intro A2 c2 w5 hown5 hg5 _; refine hK _ _ (Gr.trans hc4 hg5) ?_; clear hK K; simp only [Act.put, List.setIfInBounds_toArray, List.set_cons_zero, List.set_cons_succ])
          (refine tailK (by rfl) (fun w6 hc6 he6 K hK => ?_); go_simp; refine hK _ _ (hc6) ?_; clear hK K)
          (refine fun w7 hc7 he7 => NoPanic.normal ?_)
          have hb5 : Below w.heap.size w w5 := bel_app (bel_trans (bel_alloc (bel_trans hb he3) _) he4) hg5 (fun g' hg' => ((own_lt HO.out) g' hg').1)
          have HO3 := Lib.hid (own_keep (own_keep hown5 he6) he7)
          clear hown5
          go_wp2
          exact ⟨⟨j + 1, c2, A2, by omega, by go_num, rfl, by rw [HST.out]; exact HO3.out, bel_trans (bel_trans hb5 he6) he7⟩, by simp [intOf]; omega⟩
        · obtain rfl : j = k := by omega
          rw [List.take_of_length_le (by rw [HL.out]; omega), HVV.out] at hown
          have HO := Lib.hid hown
          have hj1 : ¬ (j : Int) < (j : Int) := by omega
          clear hown
          go_wp2
          go_ret
          exact ⟨_, _, _, rfl, HO.out, hb⟩
end Go.Proofs.YtoedmmhiinhljaaGreatDoor
