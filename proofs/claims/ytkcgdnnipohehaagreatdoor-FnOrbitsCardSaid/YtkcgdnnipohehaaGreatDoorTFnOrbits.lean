/- The statement on FnOrbits, out of the walk of its law. -/
import Derived.Test.YtkcgdnnipohehaaGreatDoorU8FnOrbits
import Derived.Test.YtkcgdnnipohehaaGreatDoorCards
import Derived.Test.YtkcgdnnipohehaaGreatDoorTie
import Derived.LaidMore
import Derived.Lay
import Derived.SevenTiedAt
namespace Go.Proofs.YtkcgdnnipohehaaGreatDoor
open Go.ChangeShapes Go.WideShapes Go.ChangeAt Go.RowKit
open Go.ChangeMaps (open_string shut_string)
set_option linter.unusedVariables false
set_option maxRecDepth 100000 in
theorem lifted_FnOrbits (os : Os) (started : os.Started) (H : Type) (enc : TypeId × Value → H) :
    ReturnsInHanded {} Tryz.checked os 3 .any (fun w args => (Rows.fnOrbitsSpec.pre enc Tryz.prog Tryz.f3 Rows.fnOrbitsRow.domain false w args ∧ laidMetH Tryz.prog Rows.fnOrbitsRow.laid w) ∧ sizedMet enc Tryz.prog Tryz.f3 (OpenSpec.ofChange Rows.fnOrbitsSpec) false w args) (Rows.fnOrbitsSpec.post enc Tryz.prog Tryz.f3 false true false false) := by
  refine returnsInHanded_of_change_and (C := Tryz.checked) (X := fun w _ => laidMetH Tryz.prog Rows.fnOrbitsRow.laid w) (fun _ _ _ hh h => h.of_heap hh) own_prog started (by kernel_rfl) Tryz.func3
    (ChangeSpec.witness_shaped (enc := enc) (C := Tryz.checked) (os := os) (X := fun w _ => laidMetH Tryz.prog Rows.fnOrbitsRow.laid w) false (World.laidAll Tryz.prog os Rows.fnOrbitsRow.laid) #[.slice none 0 0] 8 (World.laidAll_os _ _ _)
      (World.shaped_of_ZipB (by kernel_rfl) (by kernel_rfl)) (by kernel_rfl) (by kernel_rfl) (by kernel_rfl)
      (by rw [MakeChecks.laidMetH_plain _ _ _ (by kernel_rfl)]; exact laidMet_laidAll _ (by kernel_rfl) (by kernel_rfl))) ?_
  intro W base args ds gs before hval0 hW hcnd _ hL _
  have hval : ∀ (j : Nat) t v, Tryz.f3.params[j]? = some t → args[j]? = some v → Value.okWide Tryz.prog W .any base t v := hval0
  have hW' := hW
  obtain ⟨p, q, hA0, hV, rfl, hfz, hnd⟩ := hW
  have hA : DataW.TrodAll enc Tryz.prog W 0 (fun _ => true) true Tryz.f3.params.toList args.toList ds p := hA0
  have hA1 := hA
  rw [Tryz.params3] at hA hval
  obtain ⟨v0, vs0, d0, ds0, p0, q0, hargs, rfl, rfl, h0, r0⟩ := trodAll_cons hA
  obtain ⟨rfl, rfl, rfl⟩ := trodAll_nil r0
  obtain rfl : args = #[v0] := by cases args; simp_all
  obtain ⟨rfl, rfl⟩ := trodVars_none hV
  clear hA0 hval0
  simp only [List.append_nil] at hW' hA1
  have fin : ∀ e W', Ret W (.bool true) e W' → ∃ v, e = .returned v ∧ Rows.fnOrbitsSpec.post enc Tryz.prog Tryz.f3 false true false false W #[v0] v W' := by
    intro e W' hq
    obtain ⟨he, hg⟩ := hq
    subst he
    exact ⟨_, rfl, post_law laid_prog (by kernel_rfl) (by kernel_rfl) Tryz.underlying4 rfl hW' hA1 rfl hg⟩
  clear hW' hA1 hfz hnd hcnd
  have hTb := tb_of_laid hL
  obtain ⟨A0, n0, c0, xs0, rfl, hr0, hl0, hm0⟩ := openB Tryz.underlying22 (hval 0 22 v0 rfl rfl) h0
  exact (law_FnOrbits A0 n0 c0 xs0 W hr0 hl0 hm0 hTb).mono fin

theorem proved_FnOrbits : Rows.FnOrbitsSaid :=
  OpenClaim.holds_of_wide 3 Tryz.f3 rfl rfl rfl rfl rfl rfl rfl ⟨rfl, rfl, rfl, rfl, rfl⟩ rfl rfl rfl rfl rfl (by kernel_rfl) Tryz.func3 (by kernel_rfl)
    (of_decide_eq_true (by kernel_rfl)) (by unfold Func.isWrapper; first | (rw [if_pos (by decide +kernel)]; kernel_rfl) | (rw [if_neg (by decide +kernel)]; exact ⟨rfl, rfl⟩))
    (fun os started H enc _ => lifted_FnOrbits os started H enc)
theorem proved_FnOrbitsCard : Rows.FnOrbitsCardSaid :=
  Claim7.holds_tied_plain_at .later [] [.data, .data] true (true, "25b95cc122d924806c1f5afaa9535fc76cdfadaaaebc54659e0e69e34d976cbe") false
    proved_FnOrbits (fun _ h => by cases h) (by kernel_rfl) (fun _ h => by cases h) fnOrbits_row_tie rfl ⟨rfl, rfl⟩ (by kernel_rfl) rfl
    (fun f fn hf hfn => by
      obtain rfl : f = 3 := Option.some.inj ((show Tryz.prog.funcNamed "loop.example/g03400/laws.FnOrbits" = some 3 by kernel_rfl).symm.trans hf) |>.symm
      obtain rfl : fn = Tryz.f3 := (Option.some.inj (Tryz.func3.symm.trans hfn)).symm
      exact ⟨by kernel_rfl, fun j t ht => by
        rw [Tryz.params3] at ht
        rcases j with _ | j
        · obtain rfl : t = 22 := by simpa using ht.symm
          exact (show Tryz.prog.wantsStandIn 22 = false by kernel_rfl)
        · simp at ht⟩)
    (by kernel_rfl)
#print axioms proved_FnOrbitsCard
end Go.Proofs.YtkcgdnnipohehaaGreatDoor
