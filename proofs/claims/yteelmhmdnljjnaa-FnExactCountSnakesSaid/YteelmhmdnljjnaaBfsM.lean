/- The reference's search by breadth: what is known on the way. No program is in sight. -/
import Derived.Test.YteelmhmdnljjnaaSnakeM
namespace Go.Proofs.Yteelmhmdnljjnaa
open Go.RowKit
set_option linter.unusedVariables false
structure Bfs (xs seen : List C) (i j : Nat) : Prop where
  h0 : s0 xs ∈ seen
  sub : ∀ c ∈ seen, c ∈ xs
  nd : seen.Nodup
  rch : ∀ c ∈ seen, Rch xs (s0 xs) c
  cl : ∀ a (ha : a < seen.length) c, c ∈ xs → near seen[a] c = true → (a < i ∨ a = i ∧ ∃ b, b < j ∧ xs[b]? = some c) → c ∈ seen
theorem Bfs.init (xs : List C) (h : 1 ≤ xs.length) : Bfs xs [s0 xs] 0 0 := by
  have h0 : s0 xs ∈ xs := by
    cases xs with
    | nil => simp at h
    | cons a t => simp [s0]
  refine ⟨by simp, fun c hc => ?_, by simp, fun c hc => ?_, fun a ha c _ _ h1 => ?_⟩
  · simp only [List.mem_singleton] at hc; rw [hc]; exact h0
  · simp only [List.mem_singleton] at hc; rw [hc]; exact .base
  · rcases h1 with h1 | ⟨_, b, h1, _⟩ <;> omega
theorem Bfs.len {xs seen : List C} {i j : Nat} (h : Bfs xs seen i j) : seen.length ≤ xs.length := nodup_len seen xs h.nd h.sub
theorem Bfs.skip {xs seen : List C} {i j : Nat} (h : Bfs xs seen i j) (hi : i < seen.length) (hj : j < xs.length) (hn : near seen[i] xs[j] = true → hasC seen xs[j].1 xs[j].2 = true) : Bfs xs seen i (j + 1) := by
  refine ⟨h.h0, h.sub, h.nd, h.rch, fun a ha c hc hnr h1 => ?_⟩
  by_cases e : a = i ∧ xs[j]? = some c
  · obtain ⟨rfl, e⟩ := e
    rw [List.getElem?_eq_getElem hj] at e
    injection e with e
    subst e
    exact (hasC_iff _ _).1 (hn hnr)
  · refine h.cl a ha c hc hnr ?_
    rcases h1 with h1 | ⟨h1, b, hb, hbc⟩
    · exact .inl h1
    · refine .inr ⟨h1, b, ?_, hbc⟩
      rcases Nat.lt_or_ge b j with h2 | h2
      · exact h2
      · obtain rfl : b = j := by omega
        exact absurd ⟨h1, hbc⟩ e
theorem Bfs.push {xs seen : List C} {i j : Nat} (h : Bfs xs seen i j) (hi : i < seen.length) (hj : j < xs.length) (hn : near seen[i] xs[j] = true) (hh : hasC seen xs[j].1 xs[j].2 = false) : Bfs xs (seen ++ [xs[j]]) i (j + 1) := by
  have hnot : xs[j] ∉ seen := fun hm => by rw [(hasC_iff _ _).2 hm] at hh; cases hh
  refine ⟨by simp [h.h0], fun c hc => ?_, ?_, fun c hc => ?_, fun a ha c hc hnr h1 => ?_⟩
  · rcases List.mem_append.1 hc with hc | hc
    · exact h.sub c hc
    · simp only [List.mem_singleton] at hc; rw [hc]; exact List.getElem_mem hj
  · rw [List.nodup_append]
    refine ⟨h.nd, by simp, fun a ha b hb => ?_⟩
    simp only [List.mem_singleton] at hb
    subst hb
    rintro rfl
    exact hnot ha
  · rcases List.mem_append.1 hc with hc | hc
    · exact h.rch c hc
    · simp only [List.mem_singleton] at hc; rw [hc]; exact .step (h.rch _ (List.getElem_mem hi)) (List.getElem_mem hj) hn
  · rw [List.mem_append, List.mem_singleton]
    by_cases ha' : a < seen.length
    · rw [List.getElem_append_left ha'] at hnr
      by_cases e : c = xs[j]
      · exact .inr e
      · refine .inl (h.cl a ha' c hc hnr ?_)
        rcases h1 with h1 | ⟨h1, b, hb, hbc⟩
        · exact .inl h1
        · refine .inr ⟨h1, b, ?_, hbc⟩
          rcases Nat.lt_or_ge b j with h2 | h2
          · exact h2
          · obtain rfl : b = j := by omega
            rw [List.getElem?_eq_getElem hj] at hbc
            injection hbc with hbc
            exact absurd hbc.symm e
    · rcases h1 with h1 | ⟨h1, _⟩ <;> omega
theorem Bfs.row {xs seen : List C} {i j : Nat} (h : Bfs xs seen i j) (hj : xs.length ≤ j) : Bfs xs seen (i + 1) 0 := by
  refine ⟨h.h0, h.sub, h.nd, h.rch, fun a ha c hc hnr h1 => h.cl a ha c hc hnr ?_⟩
  rcases h1 with h1 | ⟨_, b, hb, _⟩
  · rcases Nat.lt_or_ge a i with h2 | h2
    · exact .inl h2
    · obtain ⟨b, hb, e⟩ := List.mem_iff_getElem.1 hc
      exact .inr ⟨by omega, b, by omega, by rw [List.getElem?_eq_getElem hb, e]⟩
  · omega
theorem Bfs.fin {xs seen : List C} {i j : Nat} (h : Bfs xs seen i j) (hs : xs.Nodup) (hi : seen.length ≤ i) : conn xs = decide (seen.length = xs.length) :=
  conn_of_list xs seen h.h0 h.sub h.nd hs h.rch fun b hb c hc hn => by
    obtain ⟨a, ha, rfl⟩ := List.mem_iff_getElem.1 hb
    exact h.cl a ha c hc hn (.inl (by omega))
end Go.Proofs.Yteelmhmdnljjnaa
