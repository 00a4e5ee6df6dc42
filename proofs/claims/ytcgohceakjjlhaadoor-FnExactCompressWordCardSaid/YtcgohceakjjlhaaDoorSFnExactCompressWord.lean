/- The statement on FnExactCompressWord, out of the walk of its law. -/
import Derived.Test.YtcgohceakjjlhaaDoorPost
import Derived.Test.YtcgohceakjjlhaaDoorCards
import Derived.Test.YtcgohceakjjlhaaDoorTie
import Derived.LaidMore
import Derived.Lay
import Derived.SevenTiedAt
import Derived.Test.YtcgohceakjjlhaaDoorCompL
namespace Go.Proofs.YtcgohceakjjlhaaDoor
open Go.ChangeShapes Go.WideShapes Go.ChangeAt Go.RowKit
open Go.ChangeMaps (open_string shut_string)
set_option linter.unusedVariables false
set_option maxRecDepth 100000 in
theorem lifted_FnExactCompressWord (os : Os) (started : os.Started) (H : Type) (enc : TypeId × Value → H) :
    ReturnsInHanded {} Tryd.checked os 3 .any (fun w args => (Rows.fnExactCompressWordSpec.pre enc Tryd.prog Tryd.f3 Rows.fnExactCompressWordRow.domain false w args ∧ laidMetH Tryd.prog Rows.fnExactCompressWordRow.laid w) ∧ sizedMet enc Tryd.prog Tryd.f3 (OpenSpec.ofChange Rows.fnExactCompressWordSpec) false w args)
      (Rows.fnExactCompressWordSpec.post enc Tryd.prog Tryd.f3 false true false false) := by
  refine returnsInHanded_of_change_and (C := Tryd.checked) (X := fun w _ => laidMetH Tryd.prog Rows.fnExactCompressWordRow.laid w) (fun _ _ _ hh h => h.of_heap hh) own_prog started (by kernel_rfl) Tryd.func3
    (ChangeSpec.witness_shaped (enc := enc) (C := Tryd.checked) (os := os) (X := fun w _ => laidMetH Tryd.prog Rows.fnExactCompressWordRow.laid w) false (World.laidAll Tryd.prog os Rows.fnExactCompressWordRow.laid) #[.string ByteArray.empty] 8 (World.laidAll_os _ _ _)
      (World.shaped_of_ZipB (by kernel_rfl) (by kernel_rfl)) (by kernel_rfl) (by kernel_rfl) (by kernel_rfl)
      (by rw [MakeChecks.laidMetH_plain _ _ _ (by kernel_rfl)]; exact laidMet_laidAll _ (by kernel_rfl) (by kernel_rfl))) ?_
  intro W base args ds gs before hval0 hW hcnd _ hL _
  have hval : ∀ (j : Nat) t v, Tryd.f3.params[j]? = some t → args[j]? = some v → Value.okWide Tryd.prog W .any base t v := hval0
  have hW' := hW
  obtain ⟨p, q, hA0, hV, rfl, hfz, hnd⟩ := hW
  have hA : DataW.TrodAll enc Tryd.prog W 0 (fun _ => true) true Tryd.f3.params.toList args.toList ds p := hA0
  have hA1 := hA
  rw [Tryd.params3] at hA hval
  obtain ⟨v0, vs0, d0, ds0, p0, q0, hargs, rfl, rfl, h0, r0⟩ := trodAll_cons hA
  obtain ⟨rfl, rfl, rfl⟩ := trodAll_nil r0
  obtain rfl : args = #[v0] := by cases args; simp_all
  obtain ⟨rfl, rfl⟩ := trodVars_none hV
  clear hA0 hval0
  simp only [List.append_nil] at hW' hA1
  have fin : ∀ e W', Ret W (.bool true) e W' → ∃ v, e = .returned v ∧ Rows.fnExactCompressWordSpec.post enc Tryd.prog Tryd.f3 false true false false W #[v0] v W' := by
    intro e W' hq
    obtain ⟨he, hg⟩ := hq
    subst he
    exact ⟨_, rfl, post_law laid_prog (by kernel_rfl) (by kernel_rfl) Tryd.underlying4 rfl hW' hA1 rfl hg⟩
  clear hW' hA1 hfz hnd hcnd
  obtain ⟨s0, rfl, rfl, rfl, e0⟩ := open_string Tryd.underlying9 (hval 0 9 v0 rfl rfl) h0
  exact (law_FnExactCompressWord s0 W e0).mono fin

theorem proved_FnExactCompressWord : Rows.FnExactCompressWordSaid :=
  OpenClaim.holds_of_wide 3 Tryd.f3 rfl rfl rfl rfl rfl rfl rfl ⟨rfl, rfl, rfl, rfl, rfl⟩ rfl rfl rfl rfl rfl (by kernel_rfl) Tryd.func3 (by kernel_rfl)
    (of_decide_eq_true (by kernel_rfl)) (by unfold Func.isWrapper; first | (rw [if_pos (by decide +kernel)]; kernel_rfl) | (rw [if_neg (by decide +kernel)]; exact ⟨rfl, rfl⟩))
    (fun os started H enc _ => lifted_FnExactCompressWord os started H enc)
theorem proved_FnExactCompressWordCard : Rows.FnExactCompressWordCardSaid :=
  Claim7.holds_tied_plain_at .later [] [.data, .data, .data] true (true, "2905e22118b022c43aad179ef3987547d079067dd91019e1ddc04875445dd5b9") false
    proved_FnExactCompressWord (fun _ h => by cases h) (by kernel_rfl) (fun _ h => by cases h) fnExactCompressWord_row_tie rfl ⟨rfl, rfl⟩ (by kernel_rfl) rfl
    (fun f fn hf hfn => by
      obtain rfl : f = 3 := Option.some.inj ((show Tryd.prog.funcNamed "loop.example/g03400/laws.FnExactCompressWord" = some 3 by kernel_rfl).symm.trans hf) |>.symm
      obtain rfl : fn = Tryd.f3 := (Option.some.inj (Tryd.func3.symm.trans hfn)).symm
      exact ⟨by kernel_rfl, fun j t ht => by
        rw [Tryd.params3] at ht
        have h3 : t = 9 := by
          rcases j with _ | j
          · simpa using ht.symm
          · simp at ht
        subst h3
        exact (show Tryd.prog.wantsStandIn 9 = false by kernel_rfl)⟩)
    (by kernel_rfl)
#print axioms proved_FnExactCompressWordCard
end Go.Proofs.YtcgohceakjjlhaaDoor
