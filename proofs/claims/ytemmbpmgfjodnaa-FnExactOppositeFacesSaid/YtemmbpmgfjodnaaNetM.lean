/- A cube that rolls over a shape: the search by breadth, in its order. -/
import Derived.Test.YtemmbpmgfjodnaaSnakeN
import Derived.Test.YtemmbpmgfjodnaaRoll
namespace Go.Proofs.Ytemmbpmgfjodnaa
open Go.RowKit
set_option linter.unusedVariables false

def mv (c : C) (d : Nat) : C := match d with
  | 0 => (c.1 + 1, c.2)
  | 1 => (c.1, c.2 + 1)
  | 2 => (c.1 - 1, c.2)
  | _ => (c.1, c.2 - 1)
theorem near_mv (a b : C) (h : near a b = true) : ∃ d, d < 4 ∧ b = mv a d := by
  simp only [near, decide_eq_true_eq] at h
  obtain ⟨a1, a2⟩ := a
  obtain ⟨b1, b2⟩ := b
  simp only at h
  rcases (by omega : (b1 = a1 + 1 ∧ b2 = a2) ∨ (b1 = a1 ∧ b2 = a2 + 1) ∨ (b1 = a1 - 1 ∧ b2 = a2) ∨ (b1 = a1 ∧ b2 = a2 - 1)) with ⟨rfl, rfl⟩ | ⟨rfl, rfl⟩ | ⟨rfl, rfl⟩ | ⟨rfl, rfl⟩
  · exact ⟨0, by omega, rfl⟩
  · exact ⟨1, by omega, rfl⟩
  · exact ⟨2, by omega, rfl⟩
  · exact ⟨3, by omega, rfl⟩
theorem mv_near (a : C) (d : Nat) : near a (mv a d) = true := by
  unfold mv near
  rw [decide_eq_true_eq]
  split <;> simp only <;> omega
abbrev L2 := List (C × List Int)
def cs (L : L2) : List C := L.map (·.1)
def id6 : List Int := [0, 1, 2, 3, 4, 5]
def p0 : C × List Int := ((0, 0), [])
def newD (s : List C) (L : L2) (x : C) : Bool := hasC s x.1 x.2 && !hasC (cs L) x.1 x.2
def stepF (s : List C) (L : L2) (i d : Nat) : L2 :=
  if i < L.length ∧ newD s L (mv (L.getD i p0).1 d) = true then L ++ [(mv (L.getD i p0).1 d, rollL (L.getD i p0).2 d)] else L
def seqF (s : List C) : Nat → L2
  | 0 => [(s0 s, id6)]
  | k + 1 => stepF s (seqF s k) (k / 4) (k % 4)
theorem stepF_stop {s : List C} {L : L2} {i d : Nat} (h : L.length ≤ i) : stepF s L i d = L := by unfold stepF; rw [if_neg (by omega)]
theorem seqF_stop {s : List C} {k : Nat} (h : (seqF s k).length ≤ k / 4) : ∀ j, seqF s (k + j) = seqF s k := by
  intro j
  induction j with
  | zero => rfl
  | succ j ih =>
    show stepF s (seqF s (k + j)) _ _ = _
    rw [ih]
    exact stepF_stop (Nat.le_trans h (Nat.div_le_div_right (Nat.le_add_right k j)))
theorem stepF_pre (s : List C) (L : L2) (i d : Nat) : ∃ t, stepF s L i d = L ++ t := by
  unfold stepF
  split
  · exact ⟨_, rfl⟩
  · exact ⟨[], by simp⟩
theorem seqF_pre (s : List C) (k j : Nat) : ∃ t, seqF s (k + j) = seqF s k ++ t := by
  induction j with
  | zero => exact ⟨[], by simp⟩
  | succ j ih =>
    obtain ⟨t, ht⟩ := ih
    obtain ⟨u, hu⟩ := stepF_pre s (seqF s (k + j)) ((k + j) / 4) ((k + j) % 4)
    exact ⟨t ++ u, by rw [← List.append_assoc, ← ht]; exact hu⟩
theorem rollL_len (xs : List Int) (d : Nat) : (rollL xs d).length = 6 := by unfold rollL; rw [List.length_map, permN_len]
structure GoodF (s : List C) (L : L2) : Prop where
  pos : 0 < L.length
  hd : (L.getD 0 p0).1 = s0 s
  sub : ∀ c ∈ cs L, c ∈ s
  nd : (cs L).Nodup
  six : ∀ p ∈ L, p.2.length = 6
theorem cs_len (L : L2) : (cs L).length = L.length := by simp [cs]
theorem cs_app (L : L2) (p : C × List Int) : cs (L ++ [p]) = cs L ++ [p.1] := by simp [cs]
theorem getD_mem {L : L2} {i : Nat} (h : i < L.length) : L.getD i p0 ∈ L := by
  rw [List.getD_eq_getElem?_getD, List.getElem?_eq_getElem h]; exact List.getElem_mem h
theorem seqF_good {s : List C} (hs : 0 < s.length) (k : Nat) : GoodF s (seqF s k) := by
  induction k with
  | zero => exact ⟨by simp [seqF], rfl, fun c hc => by simp [seqF, cs] at hc; rw [hc]; exact s0_mem hs, by simp [seqF, cs], fun p hp => by simp [seqF] at hp; rw [hp]; rfl⟩
  | succ k ih =>
    show GoodF s (stepF s (seqF s k) (k / 4) (k % 4))
    generalize seqF s k = L at ih
    unfold stepF
    split
    · next h =>
      obtain ⟨h1, h2⟩ := h
      simp only [newD, Bool.and_eq_true, Bool.not_eq_true'] at h2
      refine ⟨by simp, ?_, fun c hc => ?_, ?_, fun p hp => ?_⟩
      · rw [List.getD_eq_getElem?_getD, List.getElem?_append_left ih.pos, ← List.getD_eq_getElem?_getD]; exact ih.hd
      · rw [cs_app] at hc
        rcases List.mem_append.1 hc with hc | hc
        · exact ih.sub c hc
        · simp only [List.mem_singleton] at hc; rw [hc]; exact (hasC_iff _ _).1 h2.1
      · rw [cs_app, List.nodup_append]
        refine ⟨ih.nd, by simp, fun a ha b hb => ?_⟩
        simp only [List.mem_singleton] at hb
        subst hb
        rintro rfl
        rw [(hasC_iff _ _).2 ha] at h2
        cases h2.2
      · rcases List.mem_append.1 hp with hp | hp
        · exact ih.six p hp
        · simp only [List.mem_singleton] at hp; rw [hp]; exact rollL_len _ _
    · exact ih
theorem seqF_len {s : List C} (hs : 0 < s.length) (k : Nat) : (seqF s k).length ≤ s.length := by
  have h := seqF_good hs k
  rw [← cs_len]
  exact nodup_len _ _ h.nd h.sub
/-- What was tried is there. -/
theorem seqF_done {s : List C} (k a d : Nat) (hd : d < 4) (hk : 4 * a + d < k) (ha : a < (seqF s k).length) (hm : mv ((seqF s k).getD a p0).1 d ∈ s) : mv ((seqF s k).getD a p0).1 d ∈ cs (seqF s k) := by
  have e : k = (4 * a + d) + (k - (4 * a + d)) := by omega
  have hlen : a < (seqF s (4 * a + d)).length := by
    rcases Nat.lt_or_ge a (seqF s (4 * a + d)).length with h | h
    · exact h
    · have := seqF_stop (s := s) (k := 4 * a + d) (by rw [show (4 * a + d) / 4 = a by omega]; exact h) (k - (4 * a + d))
      rw [← e] at this
      rw [this] at ha
      omega
  have hg : ∀ j, (seqF s (4 * a + d + j)).getD a p0 = (seqF s (4 * a + d)).getD a p0 := by
    intro j
    obtain ⟨t, ht⟩ := seqF_pre s (4 * a + d) j
    rw [ht, List.getD_eq_getElem?_getD, List.getElem?_append_left hlen, ← List.getD_eq_getElem?_getD]
  have e1 := hg (k - (4 * a + d))
  rw [← e] at e1
  rw [e1] at hm ⊢
  obtain ⟨t, ht⟩ := seqF_pre s (4 * a + d + 1) (k - (4 * a + d + 1))
  rw [show 4 * a + d + 1 + (k - (4 * a + d + 1)) = k by omega] at ht
  have hin : mv ((seqF s (4 * a + d)).getD a p0).1 d ∈ cs (seqF s (4 * a + d + 1)) := by
    show _ ∈ cs (stepF s (seqF s (4 * a + d)) ((4 * a + d) / 4) ((4 * a + d) % 4))
    rw [show (4 * a + d) / 4 = a by omega, show (4 * a + d) % 4 = d by omega]
    unfold stepF
    split
    · rw [cs_app]; simp
    · next h =>
      simp only [hlen, true_and, newD, Bool.and_eq_true, Bool.not_eq_true', not_and, Bool.not_eq_false] at h
      exact (hasC_iff _ _).1 (h ((hasC_iff _ _).2 hm))
  rw [ht]
  simp only [cs, List.map_append, List.mem_append] at hin ⊢
  exact .inl hin
def facesL (s : List C) : L2 := seqF s (4 * s.length)
theorem facesL_all {s : List C} (hc : isConn s = true) : ∀ c ∈ s, c ∈ cs (facesL s) := by
  have hsh := conn_shape hc
  have hpos := (shape_len hsh).1
  have hconn := conn_conn hc
  rw [conn_iff] at hconn
  have hg := seqF_good (s := s) hpos (4 * s.length)
  have hlen := seqF_len (s := s) hpos (4 * s.length)
  have all : ∀ c, Rch s (s0 s) c → c ∈ cs (facesL s) := by
    intro c hc
    induction hc with
    | base =>
      rw [← hg.hd]
      exact List.mem_map_of_mem (getD_mem hg.pos)
    | @step b c _ hcs hn ih =>
      obtain ⟨p, hp, rfl⟩ := List.mem_map.1 ih
      obtain ⟨a, ha, rfl⟩ := List.mem_iff_getElem.1 hp
      obtain ⟨d, hd, rfl⟩ := near_mv _ _ hn
      have hal : a < (seqF s (4 * s.length)).length := ha
      have e : (seqF s (4 * s.length)).getD a p0 = (facesL s)[a] := by rw [List.getD_eq_getElem?_getD, List.getElem?_eq_getElem hal]; rfl
      have := seqF_done (s := s) (4 * s.length) a d hd (by omega) hal (by rw [e]; exact hcs)
      rw [e] at this
      exact this
  exact fun c h => all c (hconn c h)
theorem seqF_end {s : List C} (hs : 0 < s.length) {i : Nat} (h : (seqF s (4 * i)).length ≤ i) : seqF s (4 * i) = facesL s := by
  have h1 := seqF_stop (s := s) (k := 4 * i) (by rw [show 4 * i / 4 = i by omega]; exact h)
  unfold facesL
  rcases Nat.le_total i s.length with hi | hi
  · have := h1 (4 * s.length - 4 * i)
    rw [show 4 * i + (4 * s.length - 4 * i) = 4 * s.length by omega] at this
    exact this.symm
  · have hl : (seqF s (4 * s.length)).length ≤ 4 * s.length / 4 := by rw [show 4 * s.length / 4 = s.length by omega]; exact seqF_len hs _
    have := seqF_stop hl (4 * i - 4 * s.length)
    rw [show 4 * s.length + (4 * i - 4 * s.length) = 4 * i by omega] at this
    exact this
/-- The face on a cell. -/
def lookF (L : L2) (c : C) : Option (List Int) := (L.find? fun p => p.1 == c).map (·.2)
def face0 (L : L2) (c : C) : Int := ((lookF L c).getD []).getD 0 0
noncomputable def faces (s : List C) : List Int := if isConn s then s.map (face0 (facesL s)) else []
theorem lookF_mem {L : L2} {c : C} (h : c ∈ cs L) : ∃ f, lookF L c = some f ∧ (c, f) ∈ L := by
  unfold lookF
  cases hf : L.find? fun p => p.1 == c with
  | none =>
    rw [List.find?_eq_none] at hf
    obtain ⟨p, hp, rfl⟩ := List.mem_map.1 h
    exact absurd (by simp) (hf p hp)
  | some p =>
    have h1 := List.find?_some hf
    have h2 := List.mem_of_find?_eq_some hf
    have e : p.1 = c := by simpa using h1
    exact ⟨p.2, rfl, by rw [← e]; exact h2⟩
theorem face0_take {L : L2} (hn : (cs L).Nodup) {k : Nat} (hk : k < L.length) (c : C) : face0 (L.take (k + 1)) c = if L[k].1 == c then L[k].2.getD 0 0 else face0 (L.take k) c := by
  rw [List.take_succ_eq_append_getElem hk]
  unfold face0 lookF
  rw [List.find?_append]
  cases he : L[k].1 == c with
  | false =>
    rw [List.find?_cons, he]
    simp
  | true =>
    have e : L[k].1 = c := by simpa using he
    have : (L.take k).find? (fun p => p.1 == c) = none := by
      rw [List.find?_eq_none]
      intro p hp h
      obtain ⟨j, hj, rfl⟩ := List.mem_iff_getElem.1 hp
      rw [List.length_take] at hj
      rw [List.getElem_take] at h
      have h2 : L[j].1 = c := by simpa using h
      have := nodup_inj hn (i := j) (j := k) (by rw [cs_len]; omega) (by rw [cs_len]; omega) (by simp only [cs, List.getElem_map]; rw [h2, e])
      omega
    rw [this, List.find?_cons, he]
    simp
theorem faces_len (s : List C) : (faces s).length ≤ 1048576 := by
  unfold faces
  split
  · next h => have := shape_len (conn_shape h); simp; omega
  · simp
end Go.Proofs.Ytemmbpmgfjodnaa
