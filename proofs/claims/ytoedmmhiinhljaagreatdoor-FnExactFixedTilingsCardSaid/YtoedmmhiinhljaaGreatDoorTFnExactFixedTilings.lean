/- The statement on FnExactFixedTilings, out of the walk of its law. -/
import Derived.Test.YtoedmmhiinhljaaGreatDoorU8FixedTilings
import Derived.Test.YtoedmmhiinhljaaGreatDoorCards
import Derived.Test.YtoedmmhiinhljaaGreatDoorTie
import Derived.LaidMore
import Derived.Lay
import Derived.SevenTiedAt
namespace Go.Proofs.YtoedmmhiinhljaaGreatDoor
open Go.ChangeShapes Go.WideShapes Go.ChangeAt Go.RowKit
open Go.ChangeMaps (open_string shut_string)
set_option linter.unusedVariables false
set_option maxRecDepth 100000 in
theorem lifted_FnExactFixedTilings (os : Os) (started : os.Started) (H : Type) (enc : TypeId × Value → H) :
    ReturnsInHanded {} Tryz.checked os 3 .any (fun w args => (Rows.fnExactFixedTilingsSpec.pre enc Tryz.prog Tryz.f3 Rows.fnExactFixedTilingsRow.domain false w args ∧ laidMetH Tryz.prog Rows.fnExactFixedTilingsRow.laid w) ∧ sizedMet enc Tryz.prog Tryz.f3 (OpenSpec.ofChange Rows.fnExactFixedTilingsSpec) false w args) (Rows.fnExactFixedTilingsSpec.post enc Tryz.prog Tryz.f3 false true false false) := by
  refine returnsInHanded_of_change_and (C := Tryz.checked) (X := fun w _ => laidMetH Tryz.prog Rows.fnExactFixedTilingsRow.laid w) (fun _ _ _ hh h => h.of_heap hh) own_prog started (by kernel_rfl) Tryz.func3
    (ChangeSpec.witness_shaped (enc := enc) (C := Tryz.checked) (os := os) (X := fun w _ => laidMetH Tryz.prog Rows.fnExactFixedTilingsRow.laid w) false (World.laidAll Tryz.prog os Rows.fnExactFixedTilingsRow.laid) #[.agg #[.int .i64 0, .slice none 0 0], .slice none 0 0, .int .i64 0] 8 (World.laidAll_os _ _ _)
      (World.shaped_of_ZipB (by kernel_rfl) (by kernel_rfl)) (by kernel_rfl) (by kernel_rfl) (by kernel_rfl)
      (by rw [MakeChecks.laidMetH_plain _ _ _ (by kernel_rfl)]; exact laidMet_laidAll _ (by kernel_rfl) (by kernel_rfl))) ?_
  intro W base args ds gs before hval0 hW hcnd _ hL _
  have hval : ∀ (j : Nat) t v, Tryz.f3.params[j]? = some t → args[j]? = some v → Value.okWide Tryz.prog W .any base t v := hval0
  have hW' := hW
  obtain ⟨p, q, hA0, hV, rfl, hfz, hnd⟩ := hW
  have hA : DataW.TrodAll enc Tryz.prog W 0 (fun _ => true) true Tryz.f3.params.toList args.toList ds p := hA0
  have hA1 := hA
  rw [Tryz.params3] at hA hval
  obtain ⟨v0, vs0, d0, ds0, p0, q0, hargs, rfl, rfl, h0, r0⟩ := trodAll_cons hA
  obtain ⟨v1, vs1, d1, ds1, p1, q1, rfl, rfl, rfl, h1, r1⟩ := trodAll_cons r0
  obtain ⟨v2, vs2, d2, ds2, p2, q2, rfl, rfl, rfl, h2, r2⟩ := trodAll_cons r1
  obtain ⟨rfl, rfl, rfl⟩ := trodAll_nil r2
  obtain rfl : args = #[v0, v1, v2] := by cases args; simp_all
  obtain ⟨rfl, rfl⟩ := trodVars_none hV
  clear hA0 hval0
  simp only [List.append_nil] at hW' hA1
  have fin : ∀ e W', Ret W (.bool true) e W' → ∃ v, e = .returned v ∧ Rows.fnExactFixedTilingsSpec.post enc Tryz.prog Tryz.f3 false true false false W #[v0, v1, v2] v W' := by
    intro e W' hq
    obtain ⟨he, hg⟩ := hq
    subst he
    exact ⟨_, rfl, post_law laid_prog (by kernel_rfl) (by kernel_rfl) Tryz.underlying4 rfl hW' hA1 rfl hg⟩
  clear hW' hA1 hfz hnd hcnd
  have hTb := tb_of_laid hL
  obtain ⟨x0, A0, n0, c0, xs0, rfl, hr0, hl0, hm0⟩ := openR (hval 0 24 v0 rfl rfl) h0
  obtain ⟨A1, n1, c1, xs1, rfl, hr1, hl1, hm1⟩ := openP (hval 1 25 v1 rfl rfl) h1
  obtain ⟨x2, rfl, rfl, rfl, e2⟩ := open_int Tryz.underlying3 (hval 2 3 v2 rfl rfl) h2
  exact (law_FnExactFixedTilings x0 A0 n0 c0 xs0 A1 n1 c1 xs1 x2 W hr0 hl0 hm0 hr1 hl1 hm1 e2 hTb).mono fin

theorem proved_FnExactFixedTilings : Rows.FnExactFixedTilingsSaid :=
  OpenClaim.holds_of_wide 3 Tryz.f3 rfl rfl rfl rfl rfl rfl rfl ⟨rfl, rfl, rfl, rfl, rfl⟩ rfl rfl rfl rfl rfl (by kernel_rfl) Tryz.func3 (by kernel_rfl)
    (of_decide_eq_true (by kernel_rfl)) (by unfold Func.isWrapper; first | (rw [if_pos (by decide +kernel)]; kernel_rfl) | (rw [if_neg (by decide +kernel)]; exact ⟨rfl, rfl⟩))
    (fun os started H enc _ => lifted_FnExactFixedTilings os started H enc)
theorem proved_FnExactFixedTilingsCard : Rows.FnExactFixedTilingsCardSaid :=
  Claim7.holds_tied_plain_at .later [] [.data, .data] true (true, "4400a5a6d79fb815018492259db7d7dc655997640fa52c68ece4757ba1686c27") false
    proved_FnExactFixedTilings (fun _ h => by cases h) (by kernel_rfl) (fun _ h => by cases h) fnExactFixedTilings_row_tie rfl ⟨rfl, rfl⟩ (by kernel_rfl) rfl
    (fun f fn hf hfn => by
      obtain rfl : f = 3 := Option.some.inj ((show Tryz.prog.funcNamed "loop.example/g03400/laws.FnExactFixedTilings" = some 3 by kernel_rfl).symm.trans hf) |>.symm
      obtain rfl : fn = Tryz.f3 := (Option.some.inj (Tryz.func3.symm.trans hfn)).symm
      exact ⟨by kernel_rfl, fun j t ht => by
        rw [Tryz.params3] at ht
        rcases j with _ | _ | _ | j
        · obtain rfl : t = 24 := by simpa using ht.symm
          exact (show Tryz.prog.wantsStandIn 24 = false by kernel_rfl)
        · obtain rfl : t = 25 := by simpa using ht.symm
          exact (show Tryz.prog.wantsStandIn 25 = false by kernel_rfl)
        · obtain rfl : t = 3 := by simpa using ht.symm
          exact (show Tryz.prog.wantsStandIn 3 = false by kernel_rfl)
        · simp at ht⟩)
    (by kernel_rfl)
#print axioms proved_FnExactFixedTilingsCard
end Go.Proofs.YtoedmmhiinhljaaGreatDoor
