/- FnExactEngineNew: the statement holds: for every input the call answers true, and the input reads as it did. Conditions: none. -/
import Derived.Test.YtlefjpbhbiajfaaGreatRows
import Derived.Test.YtlefjpbhbiajfaaGreatChecked
import Derived.Test.YtlefjpbhbiajfaaGreatM4
import Derived.WalkKit
import Derived.ProofKit
import Derived.OpenShut
import Derived.ShutString
import Derived.ChangeOld
import Derived.Below
import Derived.SizedLaws
import Derived.Carry
import Derived.Lib.SmallJoins
namespace Go.Proofs.YtlefjpbhbiajfaaGreat.fnExactEngineNew
open Go.ChangeShapes Go.WideShapes Go.ChangeAt Go.RowKit Go.BL
open Go.ChangeMaps (open_string shut_string)
open Go.Joins
theorem own : ownKnob Tryz.prog.godebug = none := by kernel_rfl
theorem laidOut : laidOutB Tryz.prog = true := by kernel_rfl

set_option maxRecDepth 100000 in
theorem lifted (os : Os) (started : os.Started) (H : Type) (enc : TypeId × Value → H) :
    ReturnsInHanded {} Tryz.checked os 3 .any (Rows.fnExactEngineNewSpec.pre6 enc Tryz.prog Tryz.f3 Rows.fnExactEngineNewRow.domain false) (Rows.fnExactEngineNewSpec.post enc Tryz.prog Tryz.f3 false true false false) := by
  refine returnsInHanded_of_change_sized (C := Tryz.checked) own started (by kernel_rfl) Tryz.func3
    (ChangeSpec.witness6 (enc := enc) (C := Tryz.checked) false ⟨#[], #[.int .i64 0], []⟩ 8 (by kernel_rfl) (by kernel_rfl) (by kernel_rfl) (by kernel_rfl)) ?_
  intro W base args ds gs before hval0 hW hcnd hsz0 _
  have hsz : (DataW.weightsEach Tryz.prog (Tryz.f3.params.toList ++ Rows.fnExactEngineNewSpec.plain.varTypes Tryz.prog) (ds ++ gs)).all (· ≤ reachBytes) = true := hsz0
  have hval : ∀ (j : Nat) t v, Tryz.f3.params[j]? = some t → args[j]? = some v → Value.okWide Tryz.prog W .any base t v := hval0
  have hW' := hW
  obtain ⟨p, q, hA0, hV, rfl, hfz, hnd⟩ := hW
  have hA : DataW.TrodAll enc Tryz.prog W 0 (fun _ => true) true Tryz.f3.params.toList args.toList ds p := hA0
  rw [Tryz.params3] at hA hval hsz
  obtain ⟨v0, vs0, d0, ds0, p0, q0, hargs, rfl, rfl, h0, r0⟩ := trodAll_cons hA
  obtain ⟨rfl, rfl, rfl⟩ := trodAll_nil r0
  obtain rfl : args = #[v0] := by cases args; simp_all
  obtain ⟨rfl, rfl⟩ := trodVars_none hV
  have ok0 := hval 0 3 v0 rfl rfl
  have k0 := h0
  have lt0 : ∀ x ∈ p0, x.block < W.heap.size := by obtain ⟨m, hm⟩ := k0; exact DataW.trod_lt m _ _ _ hm
  have walked : Calls Tryz.prog 3 #[v0] W fun e W' => e = .returned (.bool true) ∧ Below W.heap.size W W' := by
    have hw0 : ∀ n ∈ d0.weights Tryz.prog 3, n ≤ reachBytes := fun n hn => by
      have := List.all_eq_true.1 hsz n (DataW.weights_mem_each (j := 0) rfl rfl n hn)
      simpa using this
    obtain ⟨x0, rfl, _, _, _⟩ := open_int Tryz.underlying3 ok0 h0
    exact law_callsT (c_FnExactEngineNew x0 _ rfl) ⟨rfl, fun j x hj => by
      rcases j with _ | j
      · simp at hj; subst hj; exact ⟨_, rfl, rfl⟩
      · simp at hj⟩ (fun b hb => nomatch (show false = true from hb))
  refine walked.mono fun e W' ⟨he, bel⟩ => ?_
  subst he
  exact ⟨_, rfl, _, _, _, [], _, [], hW', trodAll_mk1 (shut_bool Tryz.underlying4 _), (trodAll_cons_mk (Below.trod laidOut (by kernel_rfl) (of_decide_eq_true (by kernel_rfl)) k0 bel lt0) trodAll_mk0), rfl, bel.frame _, fun h => by cases h⟩
theorem o0 : Tryz.pinned.checked.prog.funcNamed Rows.fnExactEngineNewRow.func = some 3 := by kernel_rfl
theorem o1 : (Rows.fnExactEngineNewRow.inPlace == Tryz.pinned.checked.prog.inPlace 3) = true := by kernel_rfl
theorem o2 : (Rows.fnExactEngineNewRow.unfollowed == Tryz.pinned.checked.prog.unfollowed 3) = true := by kernel_rfl
theorem o3 : (Rows.fnExactEngineNewRow.recurses == Tryz.pinned.checked.prog.recurses 3) = true := by kernel_rfl
theorem o4 : (Rows.fnExactEngineNewRow.named == Tryz.pinned.checked.prog.varsNamed 3) = true := by kernel_rfl
theorem o5 : joinedFacts Tryz.pinned.checked.prog 3 Tryz.f3 Rows.fnExactEngineNewSpec Rows.fnExactEngineNewRow = true := by
  unfold joinedFacts
  rw [o1, o2, o3, o4]
  kernel_rfl
theorem o6 : Tryz.f3.isInstance Tryz.pinned.checked.prog Rows.fnExactEngineNewRow.origin Rows.fnExactEngineNewRow.targs := of_decide_eq_true (by kernel_rfl)
theorem o7 : Tryz.f3.isWrapper Tryz.pinned.checked.prog Rows.fnExactEngineNewRow.wrapper Rows.fnExactEngineNewRow.mainSum := by unfold Func.isWrapper; first | (rw [if_pos (by decide +kernel)]; kernel_rfl) | (rw [if_neg (by decide +kernel)]; exact ⟨rfl, rfl⟩)
theorem over : Rows.fnExactEngineNewRow.holds Tryz.pinned (OpenSpec.ofChange Rows.fnExactEngineNewSpec) :=
  OpenClaim.holds_of_wide 3 Tryz.f3 rfl rfl rfl rfl rfl rfl rfl ⟨rfl, rfl, rfl, rfl, rfl⟩ rfl rfl rfl rfl rfl o0 Tryz.func3 o5 o6 o7
    (fun os started H enc _ => lifted os started H enc)
theorem proved : Rows.FnExactEngineNewSaid := over
end Go.Proofs.YtlefjpbhbiajfaaGreat.fnExactEngineNew
namespace Go.Proofs.YtlefjpbhbiajfaaGreat
/-- The row, under a short name, for the claim. -/
theorem fnExactEngineNew_holds : Rows.FnExactEngineNewSaid := fnExactEngineNew.proved
end Go.Proofs.YtlefjpbhbiajfaaGreat
