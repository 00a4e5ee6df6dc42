/- The statement on FnOverlaps, out of the walk of its law. -/
import Derived.Test.YtcgjnonlndaoeaaGreatDoorU8FnOverlaps
import Derived.Test.YtcgjnonlndaoeaaGreatDoorCards
import Derived.Test.YtcgjnonlndaoeaaGreatDoorTie
import Derived.LaidMore
import Derived.Lay
import Derived.SevenTiedAt
namespace Go.Proofs.YtcgjnonlndaoeaaGreatDoor
open Go.ChangeShapes Go.WideShapes Go.ChangeAt Go.RowKit
open Go.ChangeMaps (open_string shut_string)
set_option linter.unusedVariables false
set_option maxRecDepth 100000 in
theorem lifted_FnOverlaps (os : Os) (started : os.Started) (H : Type) (enc : TypeId × Value → H) :
    ReturnsInHanded {} Tryz.checked os 5 .any (fun w args => (Rows.fnOverlapsSpec.pre enc Tryz.prog Tryz.f5 Rows.fnOverlapsRow.domain false w args ∧ laidMetH Tryz.prog Rows.fnOverlapsRow.laid w) ∧ sizedMet enc Tryz.prog Tryz.f5 (OpenSpec.ofChange Rows.fnOverlapsSpec) false w args) (Rows.fnOverlapsSpec.post enc Tryz.prog Tryz.f5 false true false false) := by
  refine returnsInHanded_of_change_and (C := Tryz.checked) (X := fun w _ => laidMetH Tryz.prog Rows.fnOverlapsRow.laid w) (fun _ _ _ hh h => h.of_heap hh) own_prog started (by kernel_rfl) Tryz.func5
    (ChangeSpec.witness_shaped (enc := enc) (C := Tryz.checked) (os := os) (X := fun w _ => laidMetH Tryz.prog Rows.fnOverlapsRow.laid w) false (World.laidAll Tryz.prog os Rows.fnOverlapsRow.laid) #[.slice none 0 0] 8 (World.laidAll_os _ _ _)
      (World.shaped_of_ZipB (by kernel_rfl) (by kernel_rfl)) (by kernel_rfl) (by kernel_rfl) (by kernel_rfl)
      (by rw [MakeChecks.laidMetH_plain _ _ _ (by kernel_rfl)]; exact laidMet_laidAll _ (by kernel_rfl) (by kernel_rfl))) ?_
  intro W base args ds gs before hval0 hW hcnd _ hL _
  have hval : ∀ (j : Nat) t v, Tryz.f5.params[j]? = some t → args[j]? = some v → Value.okWide Tryz.prog W .any base t v := hval0
  have hW' := hW
  obtain ⟨p, q, hA0, hV, rfl, hfz, hnd⟩ := hW
  have hA : DataW.TrodAll enc Tryz.prog W 0 (fun _ => true) true Tryz.f5.params.toList args.toList ds p := hA0
  have hA1 := hA
  rw [Tryz.params5] at hA hval
  obtain ⟨v0, vs0, d0, ds0, p0, q0, hargs, rfl, rfl, h0, r0⟩ := trodAll_cons hA
  obtain ⟨rfl, rfl, rfl⟩ := trodAll_nil r0
  obtain rfl : args = #[v0] := by cases args; simp_all
  obtain ⟨rfl, rfl⟩ := trodVars_none hV
  clear hA0 hval0
  simp only [List.append_nil] at hW' hA1
  have fin : ∀ e W', Ret W (.bool true) e W' → ∃ v, e = .returned v ∧ Rows.fnOverlapsSpec.post enc Tryz.prog Tryz.f5 false true false false W #[v0] v W' := by
    intro e W' hq
    obtain ⟨he, hg⟩ := hq
    subst he
    exact ⟨_, rfl, post_law laid_prog (by kernel_rfl) (by kernel_rfl) Tryz.underlying4 rfl hW' hA1 rfl hg⟩
  clear hW' hA1 hfz hnd hcnd
  have hTb := tb_of_laid hL
  obtain ⟨A0, n0, c0, xs0, rfl, hr0, hl0, hm0⟩ := openB Tryz.underlying42 (hval 0 42 v0 rfl rfl) h0
  exact (law_FnOverlaps A0 n0 c0 xs0 W hr0 hl0 hm0 hTb).mono fin

theorem proved_FnOverlaps : Rows.FnOverlapsSaid :=
  OpenClaim.holds_of_wide 5 Tryz.f5 rfl rfl rfl rfl rfl rfl rfl ⟨rfl, rfl, rfl, rfl, rfl⟩ rfl rfl rfl rfl rfl (by kernel_rfl) Tryz.func5 (by kernel_rfl)
    (of_decide_eq_true (by kernel_rfl)) (by unfold Func.isWrapper; first | (rw [if_pos (by decide +kernel)]; kernel_rfl) | (rw [if_neg (by decide +kernel)]; exact ⟨rfl, rfl⟩))
    (fun os started H enc _ => lifted_FnOverlaps os started H enc)
theorem proved_FnOverlapsCard : Rows.FnOverlapsCardSaid :=
  Claim7.holds_tied_plain_at .later [] [.data, .data] true (true, "f0d73a68d160c7a7ac52ada312b2caea1224449b36d043236437036b214c2972") false
    proved_FnOverlaps (fun _ h => by cases h) (by kernel_rfl) (fun _ h => by cases h) fnOverlaps_row_tie rfl ⟨rfl, rfl⟩ (by kernel_rfl) rfl
    (fun f fn hf hfn => by
      obtain rfl : f = 5 := Option.some.inj ((show Tryz.prog.funcNamed "loop.example/g03400/laws.FnOverlaps" = some 5 by kernel_rfl).symm.trans hf) |>.symm
      obtain rfl : fn = Tryz.f5 := (Option.some.inj (Tryz.func5.symm.trans hfn)).symm
      exact ⟨by kernel_rfl, fun j t ht => by
        rw [Tryz.params5] at ht
        rcases j with _ | j
        · obtain rfl : t = 42 := by simpa using ht.symm
          exact (show Tryz.prog.wantsStandIn 42 = false by kernel_rfl)
        · simp at ht⟩)
    (by kernel_rfl)
#print axioms proved_FnOverlapsCard
end Go.Proofs.YtcgjnonlndaoeaaGreatDoor
