/- Snakes: the sum of degrees, a snake has an end, the way from an end reaches all cells. No program is in sight. -/
import Derived.Test.YtemmbpmgfjodnaaSnakeM
namespace Go.Proofs.Ytemmbpmgfjodnaa
open Go.RowKit
set_option linter.unusedVariables false

theorem near_irr (a : C) : near a a = false := by simp [near]
theorem deg_app (p : List C) (x c : C) : deg (p ++ [x]) c = deg p c + (if near c x then 1 else 0) := by
  unfold deg; rw [List.countP_append, List.countP_singleton]
theorem sum_add {α : Type} (f : α → Nat) (p : α → Bool) (q : List α) : (q.map fun c => f c + (if p c then 1 else 0)).sum = (q.map f).sum + q.countP p := by
  induction q with
  | nil => rfl
  | cons a t ih => simp only [List.map_cons, List.sum_cons, List.countP_cons, ih]; split <;> omega
def sumDeg (l : List C) : Nat := (l.map (deg l)).sum
theorem sumDeg_app (p : List C) (x : C) : sumDeg (p ++ [x]) = sumDeg p + 2 * p.countP (near x) := by
  unfold sumDeg
  rw [List.map_append, List.sum_append]
  have e : (p.map (deg (p ++ [x]))) = p.map fun c => deg p c + (if near c x then 1 else 0) := by
    apply List.map_congr_left; intro c _; exact deg_app p x c
  rw [e, sum_add (deg p) (fun c => near c x)]
  simp only [List.map_cons, List.map_nil, List.sum_cons, List.sum_nil, deg_app, near_irr]
  have e2 : p.countP (fun c => near c x) = p.countP (near x) := countP_congr' fun d _ => near_symm _ _
  have e3 : deg p x = p.countP (near x) := rfl
  rw [e2, e3]
  simp only [Bool.false_eq_true, if_false]
  omega
theorem sumDeg_inner (l : List C) : ∀ k, k ≤ l.length → sumDeg (l.take k) = 2 * inner l k := by
  intro k
  induction k with
  | zero => intro _; simp [sumDeg, inner]
  | succ k ih =>
    intro hk
    rw [List.take_succ_eq_append_getElem (by omega), sumDeg_app, ih (by omega)]
    simp only [inner, List.getD_eq_getElem?_getD, List.getElem?_eq_getElem (show k < l.length by omega), Option.getD_some]
    have : (List.countP (near l[k]) (List.take k l)) = List.countP (fun d => near l[k] d) (List.take k l) := rfl
    omega
theorem sum_ge (f : C → Nat) (m : Nat) (q : List C) (h : ∀ c ∈ q, m ≤ f c) : q.length * m ≤ (q.map f).sum := by
  induction q with
  | nil => simp
  | cons a t ih =>
    have h1 := ih (fun c hc => h c (by simp [hc]))
    have h2 := h a (by simp)
    simp only [List.map_cons, List.sum_cons, List.length_cons, Nat.add_mul]
    omega
theorem s0_mem {s : List C} (h : 0 < s.length) : s0 s ∈ s := by
  cases s with
  | nil => simp at h
  | cons a t => simp [s0]
theorem rch_first {s : List C} {a c : C} (h : Rch s a c) : c = a ∨ ∃ d ∈ s, near a d = true := by
  induction h with
  | base => exact .inl rfl
  | @step b c _ hc hn ih =>
    rcases ih with rfl | ih
    · exact .inr ⟨c, hc, hn⟩
    · exact .inr ih
theorem rch_last {s : List C} {a c : C} (h : Rch s a c) : c = a ∨ ∃ d, (d = a ∨ d ∈ s) ∧ near c d = true := by
  cases h with
  | base => exact .inl rfl
  | @step b _ h1 hc hn =>
    refine .inr ⟨b, ?_, by rw [near_symm]; exact hn⟩
    cases h1 with
    | base => exact .inl rfl
    | step _ hb _ => exact .inr hb
theorem deg_pos {s : List C} (hs : conn s = true) (hn : s.Nodup) (hl : 2 ≤ s.length) {c : C} (hc : c ∈ s) : 1 ≤ deg s c := by
  rw [conn_iff] at hs
  have key : ∃ d ∈ s, near c d = true := by
    rcases rch_last (hs c hc) with rfl | ⟨d, hd, h⟩
    · obtain ⟨j, hj⟩ : ∃ d ∈ s, d ≠ s0 s := by
        refine ⟨s[1], List.getElem_mem _, fun e => ?_⟩
        have e0 : s0 s = s[0] := by simp [s0, List.getD_eq_getElem?_getD, show 0 < s.length by omega]
        rw [e0] at e
        have := nodup_inj hn (by omega) (by omega) e
        omega
      rcases rch_first (hs j hj.1) with h | h
      · exact absurd h hj.2
      · exact h
    · rcases hd with rfl | hd
      · exact ⟨_, s0_mem (by omega), h⟩
      · exact ⟨d, hd, h⟩
  obtain ⟨d, hd, h⟩ := key
  exact List.countP_pos_iff.2 ⟨d, hd, h⟩
theorem snake_deg {s : List C} (h : isSnake s = true) : ∀ c ∈ s, deg s c ≤ 2 := by
  simp only [isSnake, Bool.and_eq_true, List.all_eq_true, decide_eq_true_eq] at h
  exact h.2
theorem conn_conn {s : List C} (h : isConn s = true) : conn s = true := by simp only [isConn, Bool.and_eq_true] at h; exact h.2
/-- A tree of two cells or more has an end. -/
theorem tree_end {s : List C} (h : isTree s = true) (hl : 2 ≤ s.length) : ∃ c ∈ s, deg s c = 1 := by
  have hc := tree_conn h
  have hn := shape_nodup (conn_shape hc)
  have hi : inner s s.length = s.length - 1 := by simp only [isTree, Bool.and_eq_true, beq_iff_eq] at h; exact h.2
  have hsum := sumDeg_inner s s.length (Nat.le_refl _)
  rw [List.take_length, hi] at hsum
  rcases Classical.em (∃ c ∈ s, deg s c = 1) with h1 | h1
  · exact h1
  · exfalso
    have h2 : ∀ c ∈ s, 2 ≤ deg s c := fun c hcs => by
      have := deg_pos (conn_conn hc) hn hl hcs
      have : deg s c ≠ 1 := fun e => h1 ⟨c, hcs, e⟩
      omega
    have := sum_ge (deg s) 2 s h2
    unfold sumDeg at hsum
    omega
theorem ends_ne {s : List C} (h : isSnake s = true) (hl : 2 ≤ s.length) : ends s ≠ [] := by
  obtain ⟨c, hc, hd⟩ := tree_end (snake_tree h) hl
  have hsh := conn_shape (tree_conn (snake_tree h))
  intro e
  have : c ∈ ends s := by
    unfold ends
    rw [hsh, if_pos rfl, List.mem_filter]
    exact ⟨hc, by simp [hd]⟩
  rw [e] at this
  cases this
def e0 (s : List C) : C := (ends s).getD 0 (0, 0)
theorem e0_mem {s : List C} (h : isSnake s = true) (hl : 2 ≤ s.length) : e0 s ∈ s ∧ deg s (e0 s) = 1 := by
  have hne := ends_ne h hl
  have hm : e0 s ∈ ends s := by
    unfold e0
    cases he : ends s with
    | nil => exact absurd he hne
    | cons a t => simp
  unfold ends at hm
  rw [conn_shape (tree_conn (snake_tree h)), if_pos rfl, List.mem_filter] at hm
  exact ⟨hm.1, by simpa using hm.2⟩
/-- Two cells that a list's filter has are one where it has but one. -/
theorem uniq1 {l : List C} {p : C → Bool} (h : l.countP p ≤ 1) {a b : C} (ha : a ∈ l) (hb : b ∈ l) (pa : p a = true) (pb : p b = true) : a = b := by
  rcases Decidable.em (a = b) with h1 | h1
  · exact h1
  · exfalso
    have := nodup_len [a, b] (l.filter p) (by simp [h1]) (fun x hx => by
      simp only [List.mem_cons, List.not_mem_nil, or_false] at hx
      rcases hx with rfl | rfl
      · exact List.mem_filter.2 ⟨ha, pa⟩
      · exact List.mem_filter.2 ⟨hb, pb⟩)
    rw [← List.countP_eq_length_filter] at this
    simp only [List.length_cons, List.length_nil] at this
    omega
theorem uniq2 {l : List C} {p : C → Bool} (h : l.countP p ≤ 2) {a b c : C} (hab : a ≠ b) (ha : a ∈ l) (hb : b ∈ l) (hc : c ∈ l) (pa : p a = true) (pb : p b = true) (pc : p c = true) : c = a ∨ c = b := by
  rcases Decidable.em (c = a) with h1 | h1
  · exact .inl h1
  · rcases Decidable.em (c = b) with h2 | h2
    · exact .inr h2
    · exfalso
      have := nodup_len [a, b, c] (l.filter p) (by simp [hab, Ne.symm h1, Ne.symm h2]) (fun x hx => by
        simp only [List.mem_cons, List.not_mem_nil, or_false] at hx
        rcases hx with rfl | rfl | rfl
        · exact List.mem_filter.2 ⟨ha, pa⟩
        · exact List.mem_filter.2 ⟨hb, pb⟩
        · exact List.mem_filter.2 ⟨hc, pc⟩)
      rw [← List.countP_eq_length_filter] at this
      simp only [List.length_cons, List.length_nil] at this
      omega

def lastC (out : List C) : C := out.getD (out.length - 1) (0, 0)
/-- The next cell on the way: beside the last one, and new. -/
def onWay (out : List C) (c : C) : Bool := near (lastC out) c && !hasC out c.1 c.2
def walkBy (s : List C) : Nat → List C
  | 0 => [e0 s]
  | k + 1 => walkBy s k ++ (s.find? (onWay (walkBy s k))).toList
structure Way (s out : List C) : Prop where
  pos : 0 < out.length
  end_ : deg s (out.getD 0 (0, 0)) = 1
  sub : ∀ c ∈ out, c ∈ s
  nd : out.Nodup
  adj : ∀ i (h : i + 1 < out.length), near out[i] out[i + 1] = true
theorem lastC_eq {out : List C} (h : 0 < out.length) : lastC out = out[out.length - 1] := by
  unfold lastC; rw [List.getD_eq_getElem?_getD, List.getElem?_eq_getElem (by omega)]; rfl
theorem Way.closed {s out : List C} (hs : isSnake s = true) (hw : Way s out) (hno : ∀ c ∈ s, near (lastC out) c = true → c ∈ out) :
    ∀ i (h : i < out.length), ∀ c ∈ s, near out[i] c = true → c ∈ out := by
  intro i hi c hc hn
  by_cases hl : i = out.length - 1
  · subst hl
    exact hno c hc (by rw [lastC_eq hw.pos]; exact hn)
  · have h1 := hw.adj i (by omega)
    have m1 : out[i + 1] ∈ out := List.getElem_mem _
    by_cases h0 : i = 0
    · subst h0
      have he : deg s out[0] = 1 := by
        have := hw.end_
        rwa [List.getD_eq_getElem?_getD, List.getElem?_eq_getElem hw.pos] at this
      have : c = out[0 + 1] := uniq1 (l := s) (p := fun d => near out[0] d) (by unfold deg at he; omega) hc (hw.sub _ m1) hn h1
      rw [this]; exact m1
    · have h2 := hw.adj (i - 1) (by omega)
      have e : i - 1 + 1 = i := by omega
      simp only [e] at h2
      have m2 : out[i - 1] ∈ out := List.getElem_mem _
      have hne : out[i - 1] ≠ out[i + 1] := fun e => by
        have := nodup_inj hw.nd (by omega) (by omega) e
        omega
      have hd := snake_deg hs out[i] (hw.sub _ (List.getElem_mem _))
      rcases uniq2 (l := s) (p := fun d => near out[i] d) hd hne (hw.sub _ m2) (hw.sub _ m1) hc (by rw [near_symm]; exact h2) h1 hn with h | h
      · rw [h]; exact m2
      · rw [h]; exact m1
theorem Way.next {s out : List C} (hs : isSnake s = true) (hw : Way s out) (hlen : out.length < s.length) : ∃ c, s.find? (onWay out) = some c := by
  rcases hf : s.find? (onWay out) with _ | c
  · exfalso
    rw [List.find?_eq_none] at hf
    have hno : ∀ c ∈ s, near (lastC out) c = true → c ∈ out := fun c hc hn => by
      have := hf c hc
      simp only [onWay, hn, Bool.true_and, Bool.not_eq_true', Bool.not_eq_false] at this
      exact (hasC_iff _ _).1 this
    have hcl := hw.closed hs hno
    have hconn := conn_conn (tree_conn (snake_tree hs))
    rw [conn_iff] at hconn
    have hpos : 0 < s.length := by omega
    have hop := hw.pos
    have hback : ∀ c, Rch s (s0 s) c → c ∈ out → s0 s ∈ out := by
      intro c hc
      induction hc with
      | base => exact id
      | @step b c h1 hc hn ih =>
        intro hco
        apply ih
        obtain ⟨i, hi, rfl⟩ := List.mem_iff_getElem.1 hco
        have hbs : b ∈ s := by
          cases h1 with
          | base => exact s0_mem hpos
          | step _ hb _ => exact hb
        exact hcl i hi b hbs (by rw [near_symm]; exact hn)
    have h00 : s0 s ∈ out := hback out[0] (hconn _ (hw.sub _ (List.getElem_mem hw.pos))) (List.getElem_mem _)
    have all : ∀ c, Rch s (s0 s) c → c ∈ out := by
      intro c hc
      induction hc with
      | base => exact h00
      | @step b c _ hc hn ih =>
        obtain ⟨i, hi, rfl⟩ := List.mem_iff_getElem.1 ih
        exact hcl i hi c hc hn
    have hnd := shape_nodup (conn_shape (tree_conn (snake_tree hs)))
    have := nodup_len s out hnd (fun c hc => all c (hconn c hc))
    omega
  · exact ⟨c, rfl⟩
theorem walk_way {s : List C} (hs : isSnake s = true) (hl : 2 ≤ s.length) : ∀ k, k < s.length → (walkBy s k).length = k + 1 ∧ Way s (walkBy s k) := by
  intro k
  induction k with
  | zero =>
    intro _
    have h := e0_mem hs hl
    exact ⟨rfl, ⟨by simp [walkBy], by simpa [walkBy] using h.2, fun c hc => by simp only [walkBy, List.mem_singleton] at hc; rw [hc]; exact h.1, by simp [walkBy], fun i hi => by simp [walkBy] at hi⟩⟩
  | succ k ih =>
    intro hk
    obtain ⟨h1, hw⟩ := ih (by omega)
    obtain ⟨c, hc⟩ := hw.next hs (by omega)
    have hcs := List.mem_of_find?_eq_some hc
    have hcp := List.find?_some hc
    simp only [onWay, Bool.and_eq_true, Bool.not_eq_true'] at hcp
    have hcn : c ∉ walkBy s k := fun hm => by rw [(hasC_iff _ _).2 hm] at hcp; cases hcp.2
    have e : walkBy s (k + 1) = walkBy s k ++ [c] := by simp only [walkBy, hc]; rfl
    rw [e]
    refine ⟨by simp [h1], ⟨by simp, ?_, fun d hd => ?_, ?_, fun i hi => ?_⟩⟩
    · have := hw.end_
      rw [List.getD_eq_getElem?_getD] at this ⊢
      rwa [List.getElem?_append_left hw.pos]
    · rcases List.mem_append.1 hd with hd | hd
      · exact hw.sub d hd
      · simp only [List.mem_singleton] at hd; rw [hd]; exact hcs
    · rw [List.nodup_append]
      refine ⟨hw.nd, by simp, fun a ha b hb => ?_⟩
      simp only [List.mem_singleton] at hb
      subst hb
      rintro rfl
      exact hcn ha
    · simp only [List.length_append, List.length_singleton] at hi
      by_cases hi2 : i + 1 < (walkBy s k).length
      · rw [List.getElem_append_left hi2, List.getElem_append_left (by omega)]
        exact hw.adj i hi2
      · have hil : i = (walkBy s k).length - 1 := by omega
        have hnl := hcp.1
        rw [lastC_eq hw.pos] at hnl
        have e1 : (walkBy s k ++ [c])[i]'(by simp; omega) = (walkBy s k)[(walkBy s k).length - 1]'(by omega) := by
          rw [List.getElem_append_left (by omega)]; simp only [hil]
        have e2 : (walkBy s k ++ [c])[i + 1]'(by simp; omega) = c := by
          rw [List.getElem_append_right (by omega)]; simp only [show i + 1 - (walkBy s k).length = 0 from by omega, List.getElem_cons_zero]
        rw [e1, e2]
        exact hnl
noncomputable def snakeOrder (s : List C) : List C := if isSnake s then (if s.length = 1 then s else walkBy s (s.length - 1)) else []
theorem snakeOrder_len {s : List C} (hs : isSnake s = true) : (snakeOrder s).length = s.length := by
  have hn := shape_len (conn_shape (tree_conn (snake_tree hs)))
  unfold snakeOrder
  rw [hs, if_pos rfl]
  split
  · rfl
  · rw [(walk_way hs (by omega) _ (by omega)).1]; omega
theorem snakeOrder_le (s : List C) : (snakeOrder s).length ≤ 1048576 := by
  cases hs : isSnake s with
  | false => unfold snakeOrder; rw [hs]; simp
  | true =>
    have hn := shape_len (conn_shape (tree_conn (snake_tree hs)))
    rw [snakeOrder_len hs]; omega
theorem snakeOrder_adj {s : List C} (i : Nat) (h : i + 1 < (snakeOrder s).length) : near (snakeOrder s)[i] (snakeOrder s)[i + 1] = true := by
  cases hs : isSnake s with
  | false => exfalso; unfold snakeOrder at h; rw [hs] at h; simp at h
  | true =>
    have hn := shape_len (conn_shape (tree_conn (snake_tree hs)))
    have hlen := snakeOrder_len hs
    have e : snakeOrder s = walkBy s (s.length - 1) := by unfold snakeOrder; rw [hs, if_pos rfl, if_neg (by omega)]
    simp only [e]
    exact (walk_way hs (by omega) _ (by omega)).2.adj i (by rw [← e]; exact h)
theorem find_at2 {α : Type} {p : α → Bool} {xs : List α} {j : Nat} (hj : j < xs.length) (h : ∀ c ∈ xs.take j, p c = false) (h1 : p xs[j] = true) : xs.find? p = some xs[j] := by
  have e : xs = xs.take j ++ xs[j] :: xs.drop (j + 1) := by rw [← List.drop_eq_getElem_cons hj, List.take_append_drop]
  have h2 : (xs.take j).find? p = none := by rw [List.find?_eq_none]; intro c hc; rw [h c hc]; simp
  conv => lhs; rw [e]
  rw [List.find?_append, h2, List.find?_cons, h1]; rfl
theorem walkBy_next {xs : List C} {k j : Nat} (hj : j < xs.length) (h : ∀ c ∈ xs.take j, onWay (walkBy xs k) c = false) (h1 : onWay (walkBy xs k) xs[j] = true) : walkBy xs (k + 1) = walkBy xs k ++ [xs[j]] := by
  simp only [walkBy, find_at2 hj h h1]; rfl
theorem walkBy_none {xs : List C} {k : Nat} (hs : isSnake xs = true) (hl : 2 ≤ xs.length) (hk : k + 1 < xs.length) (h : ∀ c ∈ xs, onWay (walkBy xs k) c = false) : False := by
  have hw := walk_way hs hl k (by omega)
  obtain ⟨c, hf⟩ := hw.2.next hs (by omega)
  have := List.find?_some hf
  rw [h c (List.mem_of_find?_eq_some hf)] at this
  cases this
end Go.Proofs.Ytemmbpmgfjodnaa
