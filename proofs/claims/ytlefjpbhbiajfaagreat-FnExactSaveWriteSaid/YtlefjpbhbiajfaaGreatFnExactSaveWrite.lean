/- FnExactSaveWrite: the statement holds: for every input the call answers true, and the input reads as it did. Conditions: none. -/
import Derived.Test.YtlefjpbhbiajfaaGreatRows
import Derived.Test.YtlefjpbhbiajfaaGreatChecked
import Derived.Test.YtlefjpbhbiajfaaGreatM5
import Derived.WalkKit
import Derived.ProofKit
import Derived.OpenShut
import Derived.ShutString
import Derived.ChangeOld
import Derived.Below
import Derived.SizedLaws
import Derived.Carry
import Derived.Lib.SmallJoins
namespace Go.Proofs.YtlefjpbhbiajfaaGreat.fnExactSaveWrite
open Go.ChangeShapes Go.WideShapes Go.ChangeAt Go.RowKit Go.BL
open Go.ChangeMaps (open_string shut_string)
open Go.Joins
theorem own : ownKnob Tryz.prog.godebug = none := by kernel_rfl
theorem laidOut : laidOutB Tryz.prog = true := by kernel_rfl

set_option maxRecDepth 100000 in
theorem lifted (os : Os) (started : os.Started) (H : Type) (enc : TypeId × Value → H) :
    ReturnsInHanded {} Tryz.checked os 7 .any (Rows.fnExactSaveWriteSpec.pre6 enc Tryz.prog Tryz.f7 Rows.fnExactSaveWriteRow.domain false) (Rows.fnExactSaveWriteSpec.post enc Tryz.prog Tryz.f7 false true false false) := by
  refine returnsInHanded_of_change_sized (C := Tryz.checked) own started (by kernel_rfl) Tryz.func7
    (ChangeSpec.witness6 (enc := enc) (C := Tryz.checked) false ⟨#[], #[.agg #[.int .i64 0, .slice none 0 0], .agg #[.int .i64 0, .slice none 0 0, .slice none 0 0, .slice none 0 0, .slice none 0 0, .slice none 0 0, .int .i64 0]], []⟩ 8 (by kernel_rfl) (by kernel_rfl) (by kernel_rfl) (by kernel_rfl)) ?_
  intro W base args ds gs before hval0 hW hcnd hsz0 _
  have hsz : (DataW.weightsEach Tryz.prog (Tryz.f7.params.toList ++ Rows.fnExactSaveWriteSpec.plain.varTypes Tryz.prog) (ds ++ gs)).all (· ≤ reachBytes) = true := hsz0
  have hval : ∀ (j : Nat) t v, Tryz.f7.params[j]? = some t → args[j]? = some v → Value.okWide Tryz.prog W .any base t v := hval0
  have hW' := hW
  obtain ⟨p, q, hA0, hV, rfl, hfz, hnd⟩ := hW
  have hA : DataW.TrodAll enc Tryz.prog W 0 (fun _ => true) true Tryz.f7.params.toList args.toList ds p := hA0
  rw [Tryz.params7] at hA hval hsz
  obtain ⟨v0, vs0, d0, ds0, p0, q0, hargs, rfl, rfl, h0, r0⟩ := trodAll_cons hA
  obtain ⟨v1, vs1, d1, ds1, p1, q1, rfl, rfl, rfl, h1, r1⟩ := trodAll_cons r0
  obtain ⟨rfl, rfl, rfl⟩ := trodAll_nil r1
  obtain rfl : args = #[v0, v1] := by cases args; simp_all
  obtain ⟨rfl, rfl⟩ := trodVars_none hV
  have ok0 := hval 0 40 v0 rfl rfl
  have k0 := h0
  have lt0 : ∀ x ∈ p0, x.block < W.heap.size := by obtain ⟨m, hm⟩ := k0; exact DataW.trod_lt m _ _ _ hm
  have ok1 := hval 1 67 v1 rfl rfl
  have k1 := h1
  have lt1 : ∀ x ∈ p1, x.block < W.heap.size := by obtain ⟨m, hm⟩ := k1; exact DataW.trod_lt m _ _ _ hm
  have walked : Calls Tryz.prog 7 #[v0, v1] W fun e W' => e = .returned (.bool true) ∧ Below W.heap.size W W' := by
    have hw0 : ∀ n ∈ d0.weights Tryz.prog 40, n ≤ reachBytes := fun n hn => by
      have := List.all_eq_true.1 hsz n (DataW.weights_mem_each (j := 0) rfl rfl n hn)
      simpa using this
    have hw1 : ∀ n ∈ d1.weights Tryz.prog 67, n ≤ reachBytes := fun n hn => by
      have := List.all_eq_true.1 hsz n (DataW.weights_mem_each (j := 1) rfl rfl n hn)
      simpa using this
    obtain ⟨x0, V0, z0, n0⟩ := open_disk ok0 h0 hw0
    obtain ⟨x1, V1, z1⟩ := open_save ok1 h1 hw1
    exact law_callsT (c_FnExactSaveWrite x0 x1 z0 n0 z1 _ rfl) ⟨rfl, fun j x hj => by
      rcases j with _ | _ | j
      · simp at hj; subst hj; exact ⟨_, rfl, V0⟩
      · simp at hj; subst hj; exact ⟨_, rfl, V1⟩
      · simp at hj⟩ (fun b hb => nomatch (show false = true from hb))
  refine walked.mono fun e W' ⟨he, bel⟩ => ?_
  subst he
  exact ⟨_, rfl, _, _, _, [], _, [], hW', trodAll_mk1 (shut_bool Tryz.underlying4 _), (trodAll_cons_mk (Below.trod laidOut (by kernel_rfl) (of_decide_eq_true (by kernel_rfl)) k0 bel lt0) (trodAll_cons_mk (Below.trod laidOut (by kernel_rfl) (of_decide_eq_true (by kernel_rfl)) k1 bel lt1) trodAll_mk0)), rfl, bel.frame _, fun h => by cases h⟩
theorem o0 : Tryz.pinned.checked.prog.funcNamed Rows.fnExactSaveWriteRow.func = some 7 := by kernel_rfl
theorem o1 : (Rows.fnExactSaveWriteRow.inPlace == Tryz.pinned.checked.prog.inPlace 7) = true := by kernel_rfl
theorem o2 : (Rows.fnExactSaveWriteRow.unfollowed == Tryz.pinned.checked.prog.unfollowed 7) = true := by kernel_rfl
theorem o3 : (Rows.fnExactSaveWriteRow.recurses == Tryz.pinned.checked.prog.recurses 7) = true := by kernel_rfl
theorem o4 : (Rows.fnExactSaveWriteRow.named == Tryz.pinned.checked.prog.varsNamed 7) = true := by kernel_rfl
theorem o5 : joinedFacts Tryz.pinned.checked.prog 7 Tryz.f7 Rows.fnExactSaveWriteSpec Rows.fnExactSaveWriteRow = true := by
  unfold joinedFacts
  rw [o1, o2, o3, o4]
  kernel_rfl
theorem o6 : Tryz.f7.isInstance Tryz.pinned.checked.prog Rows.fnExactSaveWriteRow.origin Rows.fnExactSaveWriteRow.targs := of_decide_eq_true (by kernel_rfl)
theorem o7 : Tryz.f7.isWrapper Tryz.pinned.checked.prog Rows.fnExactSaveWriteRow.wrapper Rows.fnExactSaveWriteRow.mainSum := by unfold Func.isWrapper; first | (rw [if_pos (by decide +kernel)]; kernel_rfl) | (rw [if_neg (by decide +kernel)]; exact ⟨rfl, rfl⟩)
theorem over : Rows.fnExactSaveWriteRow.holds Tryz.pinned (OpenSpec.ofChange Rows.fnExactSaveWriteSpec) :=
  OpenClaim.holds_of_wide 7 Tryz.f7 rfl rfl rfl rfl rfl rfl rfl ⟨rfl, rfl, rfl, rfl, rfl⟩ rfl rfl rfl rfl rfl o0 Tryz.func7 o5 o6 o7
    (fun os started H enc _ => lifted os started H enc)
theorem proved : Rows.FnExactSaveWriteSaid := over
end Go.Proofs.YtlefjpbhbiajfaaGreat.fnExactSaveWrite
namespace Go.Proofs.YtlefjpbhbiajfaaGreat
/-- The row, under a short name, for the claim. -/
theorem fnExactSaveWrite_holds : Rows.FnExactSaveWriteSaid := fnExactSaveWrite.proved
end Go.Proofs.YtlefjpbhbiajfaaGreat
