/- FnExactEngineTornSave: the statement holds: for every input the call answers true, and the input reads as it did. Conditions: none. -/
import Derived.Test.YtlefjpbhbiajfaaGreatRows
import Derived.Test.YtlefjpbhbiajfaaGreatChecked
import Derived.Test.YtlefjpbhbiajfaaGreatM5
import Derived.WalkKit
import Derived.ProofKit
import Derived.OpenShut
import Derived.ShutString
import Derived.ChangeOld
import Derived.Below
import Derived.SizedLaws
import Derived.Carry
import Derived.Lib.SmallJoins
namespace Go.Proofs.YtlefjpbhbiajfaaGreat.fnExactEngineTornSave
open Go.ChangeShapes Go.WideShapes Go.ChangeAt Go.RowKit Go.BL
open Go.ChangeMaps (open_string shut_string)
open Go.Joins
theorem own : ownKnob Tryz.prog.godebug = none := by kernel_rfl
theorem laidOut : laidOutB Tryz.prog = true := by kernel_rfl

set_option maxRecDepth 100000 in
theorem lifted (os : Os) (started : os.Started) (H : Type) (enc : TypeId × Value → H) :
    ReturnsInHanded {} Tryz.checked os 9 .any (Rows.fnExactEngineTornSaveSpec.pre6 enc Tryz.prog Tryz.f9 Rows.fnExactEngineTornSaveRow.domain false) (Rows.fnExactEngineTornSaveSpec.post enc Tryz.prog Tryz.f9 false true false false) := by
  refine returnsInHanded_of_change_sized (C := Tryz.checked) own started (by kernel_rfl) Tryz.func9
    (ChangeSpec.witness6 (enc := enc) (C := Tryz.checked) false ⟨#[], #[.agg #[.bool false, .int .i64 0, .slice none 0 0, .slice none 0 0, .slice none 0 0, .slice none 0 0, .slice none 0 0, .slice none 0 0, .int .i64 0, .int .i64 0, .int .i64 0], .int .i64 0, .int .i64 0], []⟩ 8 (by kernel_rfl) (by kernel_rfl) (by kernel_rfl) (by kernel_rfl)) ?_
  intro W base args ds gs before hval0 hW hcnd hsz0 _
  have hsz : (DataW.weightsEach Tryz.prog (Tryz.f9.params.toList ++ Rows.fnExactEngineTornSaveSpec.plain.varTypes Tryz.prog) (ds ++ gs)).all (· ≤ reachBytes) = true := hsz0
  have hval : ∀ (j : Nat) t v, Tryz.f9.params[j]? = some t → args[j]? = some v → Value.okWide Tryz.prog W .any base t v := hval0
  have hW' := hW
  obtain ⟨p, q, hA0, hV, rfl, hfz, hnd⟩ := hW
  have hA : DataW.TrodAll enc Tryz.prog W 0 (fun _ => true) true Tryz.f9.params.toList args.toList ds p := hA0
  rw [Tryz.params9] at hA hval hsz
  obtain ⟨v0, vs0, d0, ds0, p0, q0, hargs, rfl, rfl, h0, r0⟩ := trodAll_cons hA
  obtain ⟨v1, vs1, d1, ds1, p1, q1, rfl, rfl, rfl, h1, r1⟩ := trodAll_cons r0
  obtain ⟨v2, vs2, d2, ds2, p2, q2, rfl, rfl, rfl, h2, r2⟩ := trodAll_cons r1
  obtain ⟨rfl, rfl, rfl⟩ := trodAll_nil r2
  obtain rfl : args = #[v0, v1, v2] := by cases args; simp_all
  obtain ⟨rfl, rfl⟩ := trodVars_none hV
  have ok0 := hval 0 49 v0 rfl rfl
  have k0 := h0
  have lt0 : ∀ x ∈ p0, x.block < W.heap.size := by obtain ⟨m, hm⟩ := k0; exact DataW.trod_lt m _ _ _ hm
  have ok1 := hval 1 3 v1 rfl rfl
  have k1 := h1
  have lt1 : ∀ x ∈ p1, x.block < W.heap.size := by obtain ⟨m, hm⟩ := k1; exact DataW.trod_lt m _ _ _ hm
  have ok2 := hval 2 3 v2 rfl rfl
  have k2 := h2
  have lt2 : ∀ x ∈ p2, x.block < W.heap.size := by obtain ⟨m, hm⟩ := k2; exact DataW.trod_lt m _ _ _ hm
  have walked : Calls Tryz.prog 9 #[v0, v1, v2] W fun e W' => e = .returned (.bool true) ∧ Below W.heap.size W W' := by
    have hw0 : ∀ n ∈ d0.weights Tryz.prog 49, n ≤ reachBytes := fun n hn => by
      have := List.all_eq_true.1 hsz n (DataW.weights_mem_each (j := 0) rfl rfl n hn)
      simpa using this
    have hw1 : ∀ n ∈ d1.weights Tryz.prog 3, n ≤ reachBytes := fun n hn => by
      have := List.all_eq_true.1 hsz n (DataW.weights_mem_each (j := 1) rfl rfl n hn)
      simpa using this
    have hw2 : ∀ n ∈ d2.weights Tryz.prog 3, n ≤ reachBytes := fun n hn => by
      have := List.all_eq_true.1 hsz n (DataW.weights_mem_each (j := 2) rfl rfl n hn)
      simpa using this
    obtain ⟨x0, V0, z0⟩ := open_engine ok0 h0 hw0
    obtain ⟨x1, rfl, _, _, _⟩ := open_int Tryz.underlying3 ok1 h1
    obtain ⟨x2, rfl, _, _, _⟩ := open_int Tryz.underlying3 ok2 h2
    exact law_callsT (c_FnExactEngineTornSave x0 x1 x2 z0 _ rfl) ⟨rfl, fun j x hj => by
      rcases j with _ | _ | _ | j
      · simp at hj; subst hj; exact ⟨_, rfl, V0⟩
      · simp at hj; subst hj; exact ⟨_, rfl, rfl⟩
      · simp at hj; subst hj; exact ⟨_, rfl, rfl⟩
      · simp at hj⟩ (fun b hb => nomatch (show false = true from hb))
  refine walked.mono fun e W' ⟨he, bel⟩ => ?_
  subst he
  exact ⟨_, rfl, _, _, _, [], _, [], hW', trodAll_mk1 (shut_bool Tryz.underlying4 _), (trodAll_cons_mk (Below.trod laidOut (by kernel_rfl) (of_decide_eq_true (by kernel_rfl)) k0 bel lt0) (trodAll_cons_mk (Below.trod laidOut (by kernel_rfl) (of_decide_eq_true (by kernel_rfl)) k1 bel lt1) (trodAll_cons_mk (Below.trod laidOut (by kernel_rfl) (of_decide_eq_true (by kernel_rfl)) k2 bel lt2) trodAll_mk0))), rfl, bel.frame _, fun h => by cases h⟩
theorem o0 : Tryz.pinned.checked.prog.funcNamed Rows.fnExactEngineTornSaveRow.func = some 9 := by kernel_rfl
theorem o1 : (Rows.fnExactEngineTornSaveRow.inPlace == Tryz.pinned.checked.prog.inPlace 9) = true := by kernel_rfl
theorem o2 : (Rows.fnExactEngineTornSaveRow.unfollowed == Tryz.pinned.checked.prog.unfollowed 9) = true := by kernel_rfl
theorem o3 : (Rows.fnExactEngineTornSaveRow.recurses == Tryz.pinned.checked.prog.recurses 9) = true := by kernel_rfl
theorem o4 : (Rows.fnExactEngineTornSaveRow.named == Tryz.pinned.checked.prog.varsNamed 9) = true := by kernel_rfl
theorem o5 : joinedFacts Tryz.pinned.checked.prog 9 Tryz.f9 Rows.fnExactEngineTornSaveSpec Rows.fnExactEngineTornSaveRow = true := by
  unfold joinedFacts
  rw [o1, o2, o3, o4]
  kernel_rfl
theorem o6 : Tryz.f9.isInstance Tryz.pinned.checked.prog Rows.fnExactEngineTornSaveRow.origin Rows.fnExactEngineTornSaveRow.targs := of_decide_eq_true (by kernel_rfl)
theorem o7 : Tryz.f9.isWrapper Tryz.pinned.checked.prog Rows.fnExactEngineTornSaveRow.wrapper Rows.fnExactEngineTornSaveRow.mainSum := by unfold Func.isWrapper; first | (rw [if_pos (by decide +kernel)]; kernel_rfl) | (rw [if_neg (by decide +kernel)]; exact ⟨rfl, rfl⟩)
theorem over : Rows.fnExactEngineTornSaveRow.holds Tryz.pinned (OpenSpec.ofChange Rows.fnExactEngineTornSaveSpec) :=
  OpenClaim.holds_of_wide 9 Tryz.f9 rfl rfl rfl rfl rfl rfl rfl ⟨rfl, rfl, rfl, rfl, rfl⟩ rfl rfl rfl rfl rfl o0 Tryz.func9 o5 o6 o7
    (fun os started H enc _ => lifted os started H enc)
theorem proved : Rows.FnExactEngineTornSaveSaid := over
end Go.Proofs.YtlefjpbhbiajfaaGreat.fnExactEngineTornSave
namespace Go.Proofs.YtlefjpbhbiajfaaGreat
/-- The row, under a short name, for the claim. -/
theorem fnExactEngineTornSave_holds : Rows.FnExactEngineTornSaveSaid := fnExactEngineTornSave.proved
end Go.Proofs.YtlefjpbhbiajfaaGreat
