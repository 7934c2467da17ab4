/- The law ReclaimLevels, whatever the input: the call returns true, and what it was handed reads as before. -/
import Derived.Test.YtbaojfchlhlaeaaGreatRows
import Derived.Test.YtbaojfchlhlaeaaGreatZReclaimLevelsh
import Derived.WalkKit
import Derived.ProofKit
import Derived.OpenShut
import Derived.ShutString
import Derived.ChangeOld
import Derived.Below
import Derived.SizedLaws
import Derived.Carry
import Derived.ChangeSlices
import Derived.ChangeMaps5
namespace Go.Proofs.YtbaojfchlhlaeaaGreat.reclaimLevels
open Go.ChangeShapes Go.WideShapes Go.ChangeAt Go.RowKit Go.Eng
open Go.ChangeMaps (open_string shut_string)
set_option linter.unusedVariables false
set_option linter.unusedSimpArgs false
theorem own : ownKnob Tryz.prog.godebug = none := by kernel_rfl
theorem laidOut : laidOutB Tryz.prog = true := by kernel_rfl
set_option maxRecDepth 100000 in
theorem lifted (os : Os) (started : os.Started) (H : Type) (enc : TypeId × Value → H) :
    ReturnsInHanded {} Tryz.checked os 9 .any (Rows.reclaimLevelsSpec.pre6 enc Tryz.prog Tryz.f9 Rows.reclaimLevelsRow.domain false) (Rows.reclaimLevelsSpec.post enc Tryz.prog Tryz.f9 false true false false) := by
  refine returnsInHanded_of_change_sized (C := Tryz.checked) own started (by kernel_rfl) Tryz.func9
    (ChangeSpec.witness6 (enc := enc) (C := Tryz.checked) false ⟨#[], #[.agg #[.int .i64 0, .int .i64 0, .int .i64 0, .int .i64 0, .int .i64 0, .int .i64 0, .slice none 0 0, .int .i64 0, .slice none 0 0], .int .u8 0], []⟩ 8 (by kernel_rfl) (by kernel_rfl) (by kernel_rfl) (by kernel_rfl)) ?_
  intro W base args ds gs before hval0 hW hcnd hsz0 _
  have hsz : (DataW.weightsEach Tryz.prog (Tryz.f9.params.toList ++ Rows.reclaimLevelsSpec.plain.varTypes Tryz.prog) (ds ++ gs)).all (· ≤ reachBytes) = true := hsz0
  have hval : ∀ (j : Nat) t v, Tryz.f9.params[j]? = some t → args[j]? = some v → Value.okWide Tryz.prog W .any base t v := hval0
  have hW' := hW
  obtain ⟨p, q, hA0, hV, rfl, hfz, hnd⟩ := hW
  have hA : DataW.TrodAll enc Tryz.prog W 0 (fun _ => true) true Tryz.f9.params.toList args.toList ds p := hA0
  rw [Tryz.params9] at hA hval hsz
  obtain ⟨v0, vs0, d0, ds0, p0, q0, hargs, rfl, rfl, h0, r0⟩ := trodAll_cons hA
  obtain ⟨v1, vs1, d1, ds1, p1, q1, rfl, rfl, rfl, h1, r1⟩ := trodAll_cons r0
  obtain ⟨rfl, rfl, rfl⟩ := trodAll_nil r1
  obtain rfl : args = #[v0, v1] := by cases args; simp_all
  obtain ⟨rfl, rfl⟩ := trodVars_none hV
  obtain ⟨cs0, rfl, _⟩ := okWide_struct Tryz.underlying108 (hval 0 108 v0 rfl rfl)
  have k0 := h0
  have lt0 : ∀ x ∈ p0, x.block < W.heap.size := by obtain ⟨m, hm⟩ := k0; exact DataW.trod_lt m _ _ _ hm
  obtain ⟨l0, e0, g0⟩ := Vc.openAgg (ty := (.cons (.cons (.int .i64) (.cons (.int .i64) (.cons (.int .i64) (.cons (.int .i64) (.cons (.int .i64) (.cons (.int .i64) .nil)))))) (.cons (.sl (.cons (.int .i64) (.cons .bool (.cons (.sl (.int .u8)) .nil)))) (.cons (.int .i64) (.cons (.sl (.int .i64)) .nil))))) (d := 9) (by kernel_rfl) h0
  obtain ⟨a1, rfl, rfl, rfl, w1⟩ := open_int Tryz.underlying5 (hval 1 5 v1 rfl rfl) h1
  have g1 := Vc.wfRng w1
  have law := Vc.ReclaimLevels_of g0 g1
  rw [← e0] at law
  refine Go.Calls.mono law ?_
  rintro e W' ⟨⟨(r : Bool), ⟨⟩⟩, he, hr, bel⟩
  dsimp only at hr
  subst hr
  subst he
  exact ⟨_, rfl, _, _, _, [], _, [], hW', trodAll_mk1 (shut_bool Tryz.underlying4 _), (trodAll_cons_mk (Below.trod laidOut (by kernel_rfl) (of_decide_eq_true (by kernel_rfl)) k0 bel lt0) (trodAll_cons_mk (shut_int Tryz.underlying5 w1) trodAll_mk0)), rfl, bel.frame _, fun h => by cases h⟩
theorem fact0 : (Rows.reclaimLevelsRow.inPlace == Tryz.checked.prog.inPlace 9) = true := by kernel_rfl
theorem fact1 : (Rows.reclaimLevelsRow.unfollowed == Tryz.checked.prog.unfollowed 9) = true := by kernel_rfl
theorem fact2 : (Rows.reclaimLevelsRow.recurses == Tryz.checked.prog.recurses 9) = true := by kernel_rfl
theorem fact3 : (Rows.reclaimLevelsRow.named == Tryz.checked.prog.varsNamed 9) = true := by kernel_rfl
theorem facts : joinedFacts Tryz.checked.prog 9 Tryz.f9 Rows.reclaimLevelsSpec Rows.reclaimLevelsRow = true := by
  unfold joinedFacts
  rw [fact0, fact1, fact2, fact3]
  kernel_rfl
theorem over : Rows.reclaimLevelsRow.holds Tryz.pinned (OpenSpec.ofChange Rows.reclaimLevelsSpec) :=
  OpenClaim.holds_of_wide 9 Tryz.f9 rfl rfl rfl rfl rfl rfl rfl ⟨rfl, rfl, rfl, rfl, rfl⟩ rfl rfl rfl rfl rfl (by kernel_rfl) Tryz.func9 facts
    (of_decide_eq_true (by kernel_rfl)) (by unfold Func.isWrapper; first | (rw [if_pos (by decide +kernel)]; kernel_rfl) | (rw [if_neg (by decide +kernel)]; exact ⟨rfl, rfl⟩))
    (fun os started H enc _ => lifted os started H enc)
theorem proved : Rows.ReclaimLevelsSaid := over
#print axioms proved
end Go.Proofs.YtbaojfchlhlaeaaGreat.reclaimLevels
namespace Go.Proofs.YtbaojfchlhlaeaaGreat
/-- The row, under a short name, for the claim. -/
theorem reclaimLevels_holds : Rows.ReclaimLevelsSaid := reclaimLevels.proved
end Go.Proofs.YtbaojfchlhlaeaaGreat
