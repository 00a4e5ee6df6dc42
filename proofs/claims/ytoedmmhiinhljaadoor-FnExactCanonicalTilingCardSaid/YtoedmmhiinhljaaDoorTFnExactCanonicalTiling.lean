/- The statement on FnExactCanonicalTiling, out of the walk of its law. -/
import Derived.Test.YtoedmmhiinhljaaDoorU3CanonicalTiling
import Derived.Test.YtoedmmhiinhljaaDoorCards
import Derived.Test.YtoedmmhiinhljaaDoorTie
import Derived.LaidMore
import Derived.Lay
import Derived.SevenTiedAt
namespace Go.Proofs.YtoedmmhiinhljaaDoor
open Go.ChangeShapes Go.WideShapes Go.ChangeAt Go.RowKit
open Go.ChangeMaps (open_string shut_string)
set_option linter.unusedVariables false
set_option maxRecDepth 100000 in
theorem lifted_FnExactCanonicalTiling (os : Os) (started : os.Started) (H : Type) (enc : TypeId × Value → H) :
    ReturnsInHanded {} Tryd.checked os 4 .any (fun w args => (Rows.fnExactCanonicalTilingSpec.pre enc Tryd.prog Tryd.f4 Rows.fnExactCanonicalTilingRow.domain false w args ∧ laidMetH Tryd.prog Rows.fnExactCanonicalTilingRow.laid w) ∧ sizedMet enc Tryd.prog Tryd.f4 (OpenSpec.ofChange Rows.fnExactCanonicalTilingSpec) false w args) (Rows.fnExactCanonicalTilingSpec.post enc Tryd.prog Tryd.f4 false true false false) := by
  refine returnsInHanded_of_change_and (C := Tryd.checked) (X := fun w _ => laidMetH Tryd.prog Rows.fnExactCanonicalTilingRow.laid w) (fun _ _ _ hh h => h.of_heap hh) own_prog started (by kernel_rfl) Tryd.func4
    (ChangeSpec.witness_shaped (enc := enc) (C := Tryd.checked) (os := os) (X := fun w _ => laidMetH Tryd.prog Rows.fnExactCanonicalTilingRow.laid w) false (World.laidAll Tryd.prog os Rows.fnExactCanonicalTilingRow.laid) #[.agg #[.int .i64 0, .slice none 0 0], .slice none 0 0] 8 (World.laidAll_os _ _ _)
      (World.shaped_of_ZipB (by kernel_rfl) (by kernel_rfl)) (by kernel_rfl) (by kernel_rfl) (by kernel_rfl)
      (by rw [MakeChecks.laidMetH_plain _ _ _ (by kernel_rfl)]; exact laidMet_laidAll _ (by kernel_rfl) (by kernel_rfl))) ?_
  intro W base args ds gs before hval0 hW hcnd _ hL _
  have hval : ∀ (j : Nat) t v, Tryd.f4.params[j]? = some t → args[j]? = some v → Value.okWide Tryd.prog W .any base t v := hval0
  have hW' := hW
  obtain ⟨p, q, hA0, hV, rfl, hfz, hnd⟩ := hW
  have hA : DataW.TrodAll enc Tryd.prog W 0 (fun _ => true) true Tryd.f4.params.toList args.toList ds p := hA0
  have hA1 := hA
  rw [Tryd.params4] at hA hval
  obtain ⟨v0, vs0, d0, ds0, p0, q0, hargs, rfl, rfl, h0, r0⟩ := trodAll_cons hA
  obtain ⟨v1, vs1, d1, ds1, p1, q1, rfl, rfl, rfl, h1, r1⟩ := trodAll_cons r0
  obtain ⟨rfl, rfl, rfl⟩ := trodAll_nil r1
  obtain rfl : args = #[v0, v1] := by cases args; simp_all
  obtain ⟨rfl, rfl⟩ := trodVars_none hV
  clear hA0 hval0
  simp only [List.append_nil] at hW' hA1
  have fin : ∀ e W', Ret W (.bool true) e W' → ∃ v, e = .returned v ∧ Rows.fnExactCanonicalTilingSpec.post enc Tryd.prog Tryd.f4 false true false false W #[v0, v1] v W' := by
    intro e W' hq
    obtain ⟨he, hg⟩ := hq
    subst he
    exact ⟨_, rfl, post_law laid_prog (by kernel_rfl) (by kernel_rfl) Tryd.underlying4 rfl hW' hA1 rfl hg⟩
  clear hW' hA1 hfz hnd hcnd
  have hTb := tb_of_laid hL
  obtain ⟨x0, A0, n0, c0, xs0, rfl, hr0, hl0, hm0⟩ := openR (hval 0 24 v0 rfl rfl) h0
  obtain ⟨A1, n1, c1, xs1, rfl, hr1, hl1, hm1, hw1⟩ := openJ Tryd.underlying22 (hval 1 22 v1 rfl rfl) h1
  exact (law_FnExactCanonicalTiling x0 A0 n0 c0 xs0 A1 n1 c1 xs1 W hr0 hl0 hm0 hr1 hl1 hm1 hw1 hTb).mono fin

theorem proved_FnExactCanonicalTiling : Rows.FnExactCanonicalTilingSaid :=
  OpenClaim.holds_of_wide 4 Tryd.f4 rfl rfl rfl rfl rfl rfl rfl ⟨rfl, rfl, rfl, rfl, rfl⟩ rfl rfl rfl rfl rfl (by kernel_rfl) Tryd.func4 (by kernel_rfl)
    (of_decide_eq_true (by kernel_rfl)) (by unfold Func.isWrapper; first | (rw [if_pos (by decide +kernel)]; kernel_rfl) | (rw [if_neg (by decide +kernel)]; exact ⟨rfl, rfl⟩))
    (fun os started H enc _ => lifted_FnExactCanonicalTiling os started H enc)
theorem proved_FnExactCanonicalTilingCard : Rows.FnExactCanonicalTilingCardSaid :=
  Claim7.holds_tied_plain_at .later [] [.data, .data] true (true, "727ba8dcebf028c5ec3a9bfe103bd0ab16c00a7d9f1749b240e973482a490a97") false
    proved_FnExactCanonicalTiling (fun _ h => by cases h) (by kernel_rfl) (fun _ h => by cases h) fnExactCanonicalTiling_row_tie rfl ⟨rfl, rfl⟩ (by kernel_rfl) rfl
    (fun f fn hf hfn => by
      obtain rfl : f = 4 := Option.some.inj ((show Tryd.prog.funcNamed "loop.example/g03400/laws.FnExactCanonicalTiling" = some 4 by kernel_rfl).symm.trans hf) |>.symm
      obtain rfl : fn = Tryd.f4 := (Option.some.inj (Tryd.func4.symm.trans hfn)).symm
      exact ⟨by kernel_rfl, fun j t ht => by
        rw [Tryd.params4] at ht
        rcases j with _ | _ | j
        · obtain rfl : t = 24 := by simpa using ht.symm
          exact (show Tryd.prog.wantsStandIn 24 = false by kernel_rfl)
        · obtain rfl : t = 22 := by simpa using ht.symm
          exact (show Tryd.prog.wantsStandIn 22 = false by kernel_rfl)
        · simp at ht⟩)
    (by kernel_rfl)
#print axioms proved_FnExactCanonicalTilingCard
end Go.Proofs.YtoedmmhiinhljaaDoor
