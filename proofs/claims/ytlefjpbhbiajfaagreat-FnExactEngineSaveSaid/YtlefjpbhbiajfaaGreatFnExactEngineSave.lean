/- FnExactEngineSave: the statement holds: for every input the call answers true, and the input reads as it did. Conditions: none. -/
import Derived.Test.YtlefjpbhbiajfaaGreatRows
import Derived.Test.YtlefjpbhbiajfaaGreatChecked
import Derived.Test.YtlefjpbhbiajfaaGreatM5
import Derived.WalkKit
import Derived.ProofKit
import Derived.OpenShut
import Derived.ShutString
import Derived.ChangeOld
import Derived.Below
import Derived.SizedLaws
import Derived.Carry
import Derived.Lib.SmallJoins
namespace Go.Proofs.YtlefjpbhbiajfaaGreat.fnExactEngineSave
open Go.ChangeShapes Go.WideShapes Go.ChangeAt Go.RowKit Go.BL
open Go.ChangeMaps (open_string shut_string)
open Go.Joins
theorem own : ownKnob Tryz.prog.godebug = none := by kernel_rfl
theorem laidOut : laidOutB Tryz.prog = true := by kernel_rfl

set_option maxRecDepth 100000 in
theorem lifted (os : Os) (started : os.Started) (H : Type) (enc : TypeId × Value → H) :
    ReturnsInHanded {} Tryz.checked os 8 .any (Rows.fnExactEngineSaveSpec.pre6 enc Tryz.prog Tryz.f8 Rows.fnExactEngineSaveRow.domain false) (Rows.fnExactEngineSaveSpec.post enc Tryz.prog Tryz.f8 false true false false) := by
  refine returnsInHanded_of_change_sized (C := Tryz.checked) own started (by kernel_rfl) Tryz.func8
    (ChangeSpec.witness6 (enc := enc) (C := Tryz.checked) false ⟨#[], #[.agg #[.bool false, .int .i64 0, .slice none 0 0, .slice none 0 0, .slice none 0 0, .slice none 0 0, .slice none 0 0, .slice none 0 0, .int .i64 0, .int .i64 0, .int .i64 0]], []⟩ 8 (by kernel_rfl) (by kernel_rfl) (by kernel_rfl) (by kernel_rfl)) ?_
  intro W base args ds gs before hval0 hW hcnd hsz0 _
  have hsz : (DataW.weightsEach Tryz.prog (Tryz.f8.params.toList ++ Rows.fnExactEngineSaveSpec.plain.varTypes Tryz.prog) (ds ++ gs)).all (· ≤ reachBytes) = true := hsz0
  have hval : ∀ (j : Nat) t v, Tryz.f8.params[j]? = some t → args[j]? = some v → Value.okWide Tryz.prog W .any base t v := hval0
  have hW' := hW
  obtain ⟨p, q, hA0, hV, rfl, hfz, hnd⟩ := hW
  have hA : DataW.TrodAll enc Tryz.prog W 0 (fun _ => true) true Tryz.f8.params.toList args.toList ds p := hA0
  rw [Tryz.params8] at hA hval hsz
  obtain ⟨v0, vs0, d0, ds0, p0, q0, hargs, rfl, rfl, h0, r0⟩ := trodAll_cons hA
  obtain ⟨rfl, rfl, rfl⟩ := trodAll_nil r0
  obtain rfl : args = #[v0] := by cases args; simp_all
  obtain ⟨rfl, rfl⟩ := trodVars_none hV
  have ok0 := hval 0 49 v0 rfl rfl
  have k0 := h0
  have lt0 : ∀ x ∈ p0, x.block < W.heap.size := by obtain ⟨m, hm⟩ := k0; exact DataW.trod_lt m _ _ _ hm
  have walked : Calls Tryz.prog 8 #[v0] W fun e W' => e = .returned (.bool true) ∧ Below W.heap.size W W' := by
    have hw0 : ∀ n ∈ d0.weights Tryz.prog 49, n ≤ reachBytes := fun n hn => by
      have := List.all_eq_true.1 hsz n (DataW.weights_mem_each (j := 0) rfl rfl n hn)
      simpa using this
    obtain ⟨x0, V0, z0⟩ := open_engine ok0 h0 hw0
    exact law_callsT (c_FnExactEngineSave x0 z0 _ rfl) ⟨rfl, fun j x hj => by
      rcases j with _ | j
      · simp at hj; subst hj; exact ⟨_, rfl, V0⟩
      · simp at hj⟩ (fun b hb => nomatch (show false = true from hb))
  refine walked.mono fun e W' ⟨he, bel⟩ => ?_
  subst he
  exact ⟨_, rfl, _, _, _, [], _, [], hW', trodAll_mk1 (shut_bool Tryz.underlying4 _), (trodAll_cons_mk (Below.trod laidOut (by kernel_rfl) (of_decide_eq_true (by kernel_rfl)) k0 bel lt0) trodAll_mk0), rfl, bel.frame _, fun h => by cases h⟩
theorem o0 : Tryz.pinned.checked.prog.funcNamed Rows.fnExactEngineSaveRow.func = some 8 := by kernel_rfl
theorem o1 : (Rows.fnExactEngineSaveRow.inPlace == Tryz.pinned.checked.prog.inPlace 8) = true := by kernel_rfl
theorem o2 : (Rows.fnExactEngineSaveRow.unfollowed == Tryz.pinned.checked.prog.unfollowed 8) = true := by kernel_rfl
theorem o3 : (Rows.fnExactEngineSaveRow.recurses == Tryz.pinned.checked.prog.recurses 8) = true := by kernel_rfl
theorem o4 : (Rows.fnExactEngineSaveRow.named == Tryz.pinned.checked.prog.varsNamed 8) = true := by kernel_rfl
theorem o5 : joinedFacts Tryz.pinned.checked.prog 8 Tryz.f8 Rows.fnExactEngineSaveSpec Rows.fnExactEngineSaveRow = true := by
  unfold joinedFacts
  rw [o1, o2, o3, o4]
  kernel_rfl
theorem o6 : Tryz.f8.isInstance Tryz.pinned.checked.prog Rows.fnExactEngineSaveRow.origin Rows.fnExactEngineSaveRow.targs := of_decide_eq_true (by kernel_rfl)
theorem o7 : Tryz.f8.isWrapper Tryz.pinned.checked.prog Rows.fnExactEngineSaveRow.wrapper Rows.fnExactEngineSaveRow.mainSum := by unfold Func.isWrapper; first | (rw [if_pos (by decide +kernel)]; kernel_rfl) | (rw [if_neg (by decide +kernel)]; exact ⟨rfl, rfl⟩)
theorem over : Rows.fnExactEngineSaveRow.holds Tryz.pinned (OpenSpec.ofChange Rows.fnExactEngineSaveSpec) :=
  OpenClaim.holds_of_wide 8 Tryz.f8 rfl rfl rfl rfl rfl rfl rfl ⟨rfl, rfl, rfl, rfl, rfl⟩ rfl rfl rfl rfl rfl o0 Tryz.func8 o5 o6 o7
    (fun os started H enc _ => lifted os started H enc)
theorem proved : Rows.FnExactEngineSaveSaid := over
end Go.Proofs.YtlefjpbhbiajfaaGreat.fnExactEngineSave
namespace Go.Proofs.YtlefjpbhbiajfaaGreat
/-- The row, under a short name, for the claim. -/
theorem fnExactEngineSave_holds : Rows.FnExactEngineSaveSaid := fnExactEngineSave.proved
end Go.Proofs.YtlefjpbhbiajfaaGreat
