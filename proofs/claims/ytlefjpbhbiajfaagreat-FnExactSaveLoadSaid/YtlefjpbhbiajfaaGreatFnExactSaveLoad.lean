/- FnExactSaveLoad: the statement holds: for every input the call answers true, and the input reads as it did. Conditions: none. -/
import Derived.Test.YtlefjpbhbiajfaaGreatRows
import Derived.Test.YtlefjpbhbiajfaaGreatChecked
import Derived.Test.YtlefjpbhbiajfaaGreatM5
import Derived.WalkKit
import Derived.ProofKit
import Derived.OpenShut
import Derived.ShutString
import Derived.ChangeOld
import Derived.Below
import Derived.SizedLaws
import Derived.Carry
import Derived.Lib.SmallJoins
namespace Go.Proofs.YtlefjpbhbiajfaaGreat.fnExactSaveLoad
open Go.ChangeShapes Go.WideShapes Go.ChangeAt Go.RowKit Go.BL
open Go.ChangeMaps (open_string shut_string)
open Go.Joins
theorem own : ownKnob Tryz.prog.godebug = none := by kernel_rfl
theorem laidOut : laidOutB Tryz.prog = true := by kernel_rfl

set_option maxRecDepth 100000 in
theorem lifted (os : Os) (started : os.Started) (H : Type) (enc : TypeId × Value → H) :
    ReturnsInHanded {} Tryz.checked os 5 .any (Rows.fnExactSaveLoadSpec.pre6 enc Tryz.prog Tryz.f5 Rows.fnExactSaveLoadRow.domain false) (Rows.fnExactSaveLoadSpec.post enc Tryz.prog Tryz.f5 false true false false) := by
  refine returnsInHanded_of_change_sized (C := Tryz.checked) own started (by kernel_rfl) Tryz.func5
    (ChangeSpec.witness6 (enc := enc) (C := Tryz.checked) false ⟨#[], #[.agg #[.int .i64 0, .slice none 0 0]], []⟩ 8 (by kernel_rfl) (by kernel_rfl) (by kernel_rfl) (by kernel_rfl)) ?_
  intro W base args ds gs before hval0 hW hcnd hsz0 _
  have hsz : (DataW.weightsEach Tryz.prog (Tryz.f5.params.toList ++ Rows.fnExactSaveLoadSpec.plain.varTypes Tryz.prog) (ds ++ gs)).all (· ≤ reachBytes) = true := hsz0
  have hval : ∀ (j : Nat) t v, Tryz.f5.params[j]? = some t → args[j]? = some v → Value.okWide Tryz.prog W .any base t v := hval0
  have hW' := hW
  obtain ⟨p, q, hA0, hV, rfl, hfz, hnd⟩ := hW
  have hA : DataW.TrodAll enc Tryz.prog W 0 (fun _ => true) true Tryz.f5.params.toList args.toList ds p := hA0
  rw [Tryz.params5] at hA hval hsz
  obtain ⟨v0, vs0, d0, ds0, p0, q0, hargs, rfl, rfl, h0, r0⟩ := trodAll_cons hA
  obtain ⟨rfl, rfl, rfl⟩ := trodAll_nil r0
  obtain rfl : args = #[v0] := by cases args; simp_all
  obtain ⟨rfl, rfl⟩ := trodVars_none hV
  have ok0 := hval 0 40 v0 rfl rfl
  have k0 := h0
  have lt0 : ∀ x ∈ p0, x.block < W.heap.size := by obtain ⟨m, hm⟩ := k0; exact DataW.trod_lt m _ _ _ hm
  have walked : Calls Tryz.prog 5 #[v0] W fun e W' => e = .returned (.bool true) ∧ Below W.heap.size W W' := by
    have hw0 : ∀ n ∈ d0.weights Tryz.prog 40, n ≤ reachBytes := fun n hn => by
      have := List.all_eq_true.1 hsz n (DataW.weights_mem_each (j := 0) rfl rfl n hn)
      simpa using this
    obtain ⟨x0, V0, z0, n0⟩ := open_disk ok0 h0 hw0
    exact law_callsT (c_FnExactSaveLoad x0 z0 n0 _ rfl) ⟨rfl, fun j x hj => by
      rcases j with _ | j
      · simp at hj; subst hj; exact ⟨_, rfl, V0⟩
      · simp at hj⟩ (fun b hb => nomatch (show false = true from hb))
  refine walked.mono fun e W' ⟨he, bel⟩ => ?_
  subst he
  exact ⟨_, rfl, _, _, _, [], _, [], hW', trodAll_mk1 (shut_bool Tryz.underlying4 _), (trodAll_cons_mk (Below.trod laidOut (by kernel_rfl) (of_decide_eq_true (by kernel_rfl)) k0 bel lt0) trodAll_mk0), rfl, bel.frame _, fun h => by cases h⟩
theorem o0 : Tryz.pinned.checked.prog.funcNamed Rows.fnExactSaveLoadRow.func = some 5 := by kernel_rfl
theorem o1 : (Rows.fnExactSaveLoadRow.inPlace == Tryz.pinned.checked.prog.inPlace 5) = true := by kernel_rfl
theorem o2 : (Rows.fnExactSaveLoadRow.unfollowed == Tryz.pinned.checked.prog.unfollowed 5) = true := by kernel_rfl
theorem o3 : (Rows.fnExactSaveLoadRow.recurses == Tryz.pinned.checked.prog.recurses 5) = true := by kernel_rfl
theorem o4 : (Rows.fnExactSaveLoadRow.named == Tryz.pinned.checked.prog.varsNamed 5) = true := by kernel_rfl
theorem o5 : joinedFacts Tryz.pinned.checked.prog 5 Tryz.f5 Rows.fnExactSaveLoadSpec Rows.fnExactSaveLoadRow = true := by
  unfold joinedFacts
  rw [o1, o2, o3, o4]
  kernel_rfl
theorem o6 : Tryz.f5.isInstance Tryz.pinned.checked.prog Rows.fnExactSaveLoadRow.origin Rows.fnExactSaveLoadRow.targs := of_decide_eq_true (by kernel_rfl)
theorem o7 : Tryz.f5.isWrapper Tryz.pinned.checked.prog Rows.fnExactSaveLoadRow.wrapper Rows.fnExactSaveLoadRow.mainSum := by unfold Func.isWrapper; first | (rw [if_pos (by decide +kernel)]; kernel_rfl) | (rw [if_neg (by decide +kernel)]; exact ⟨rfl, rfl⟩)
theorem over : Rows.fnExactSaveLoadRow.holds Tryz.pinned (OpenSpec.ofChange Rows.fnExactSaveLoadSpec) :=
  OpenClaim.holds_of_wide 5 Tryz.f5 rfl rfl rfl rfl rfl rfl rfl ⟨rfl, rfl, rfl, rfl, rfl⟩ rfl rfl rfl rfl rfl o0 Tryz.func5 o5 o6 o7
    (fun os started H enc _ => lifted os started H enc)
theorem proved : Rows.FnExactSaveLoadSaid := over
end Go.Proofs.YtlefjpbhbiajfaaGreat.fnExactSaveLoad
namespace Go.Proofs.YtlefjpbhbiajfaaGreat
/-- The row, under a short name, for the claim. -/
theorem fnExactSaveLoad_holds : Rows.FnExactSaveLoadSaid := fnExactSaveLoad.proved
end Go.Proofs.YtlefjpbhbiajfaaGreat
