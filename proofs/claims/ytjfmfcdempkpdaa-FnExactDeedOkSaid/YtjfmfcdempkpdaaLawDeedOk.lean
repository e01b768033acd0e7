/- FnExactDeedOk: the statement holds: for every input the call answers true, and the input reads as it did. Conditions: none. -/
import Derived.Test.YtjfmfcdempkpdaaRows
import Derived.Test.YtjfmfcdempkpdaaChecked
import Derived.Test.YtjfmfcdempkpdaaDeed
import Derived.WalkKit
import Derived.ProofKit
import Derived.OpenShut
import Derived.ShutString
import Derived.ChangeOld
import Derived.Below
import Derived.SizedLaws
import Derived.Carry
import Derived.Lib.SmallJoins
namespace Go.Proofs.Ytjfmfcdempkpdaa.fnExactDeedOk
open Go.ChangeShapes Go.WideShapes Go.ChangeAt Go.RowKit Go.AL
open Go.ChangeMaps (open_string shut_string)
open Go.Joins
theorem own : ownKnob Try.prog.godebug = none := by kernel_rfl
theorem laidOut : laidOutB Try.prog = true := by kernel_rfl

set_option maxRecDepth 100000 in
theorem lifted (os : Os) (started : os.Started) (H : Type) (enc : TypeId × Value → H) :
    ReturnsInHanded {} Try.checked os 3 .any (Rows.fnExactDeedOkSpec.pre6 enc Try.prog Try.f3 Rows.fnExactDeedOkRow.domain false) (Rows.fnExactDeedOkSpec.post enc Try.prog Try.f3 false true false false) := by
  refine returnsInHanded_of_change_sized (C := Try.checked) own started (by kernel_rfl) Try.func3
    (ChangeSpec.witness6 (enc := enc) (C := Try.checked) false ⟨#[], #[.agg #[.int .i64 0, .string ByteArray.empty, .int .i64 0, .int .i64 0]], []⟩ 8 (by kernel_rfl) (by kernel_rfl) (by kernel_rfl) (by kernel_rfl)) ?_
  intro W base args ds gs before hval0 hW hcnd hsz0 _
  have hsz : (DataW.weightsEach Try.prog (Try.f3.params.toList ++ Rows.fnExactDeedOkSpec.plain.varTypes Try.prog) (ds ++ gs)).all (· ≤ reachBytes) = true := hsz0
  have hval : ∀ (j : Nat) t v, Try.f3.params[j]? = some t → args[j]? = some v → Value.okWide Try.prog W .any base t v := hval0
  have hW' := hW
  obtain ⟨p, q, hA0, hV, rfl, hfz, hnd⟩ := hW
  have hA : DataW.TrodAll enc Try.prog W 0 (fun _ => true) true Try.f3.params.toList args.toList ds p := hA0
  rw [Try.params3] at hA hval hsz
  obtain ⟨v0, vs0, d0, ds0, p0, q0, hargs, rfl, rfl, h0, r0⟩ := trodAll_cons hA
  obtain ⟨rfl, rfl, rfl⟩ := trodAll_nil r0
  obtain rfl : args = #[v0] := by cases args; simp_all
  obtain ⟨rfl, rfl⟩ := trodVars_none hV
  have ok0 := hval 0 23 v0 rfl rfl
  have k0 := h0
  have lt0 : ∀ x ∈ p0, x.block < W.heap.size := by obtain ⟨m, hm⟩ := k0; exact DataW.trod_lt m _ _ _ hm
  have walked : Calls Try.prog 3 #[v0] W fun e W' => e = .returned (.bool true) ∧ Below W.heap.size W W' := by
    obtain ⟨x0, x1, x2, x3, y0, y1, y2, y3, m, rfl, _, _, e0, e1, e2, e3⟩ := open_agg4 Try.underlying23 (by kernel_rfl) (by kernel_rfl) ok0 h0
    obtain ⟨a0, rfl, _⟩ := one_int Try.underlying3 e0
    obtain ⟨a1, rfl, _⟩ := one_str Try.underlying9 e1
    obtain ⟨a2, rfl, _⟩ := one_int Try.underlying3 e2
    obtain ⟨a3, rfl, _⟩ := one_int Try.underlying3 e3
    have := law_calls (c3 a0 a2 a3 a1 [] _ rfl) (rep_nil W fun _ => ⟨0, 0, 0⟩) (by intro x hx; rw [List.mem_singleton.1 hx]; unfold AV.wf; intro y hy; simp at hy; rcases hy with rfl | rfl | rfl | rfl <;> exact rfl)
    simpa [AV.conc, CV.conc] using this
  refine walked.mono fun e W' ⟨he, bel⟩ => ?_
  subst he
  exact ⟨_, rfl, _, _, _, [], _, [], hW', trodAll_mk1 (shut_bool Try.underlying4 _), (trodAll_cons_mk (Below.trod laidOut (by kernel_rfl) (of_decide_eq_true (by kernel_rfl)) k0 bel lt0) trodAll_mk0), rfl, bel.frame _, fun h => by cases h⟩
theorem over : Rows.fnExactDeedOkRow.holds Try.pinned (OpenSpec.ofChange Rows.fnExactDeedOkSpec) :=
  OpenClaim.holds_of_wide 3 Try.f3 rfl rfl rfl rfl rfl rfl rfl ⟨rfl, rfl, rfl, rfl, rfl⟩ rfl rfl rfl rfl rfl (by kernel_rfl) Try.func3 (by kernel_rfl)
    (of_decide_eq_true (by kernel_rfl)) (by unfold Func.isWrapper; first | (rw [if_pos (by decide +kernel)]; kernel_rfl) | (rw [if_neg (by decide +kernel)]; exact ⟨rfl, rfl⟩))
    (fun os started H enc _ => lifted os started H enc)
theorem proved : Rows.FnExactDeedOkSaid := over
end Go.Proofs.Ytjfmfcdempkpdaa.fnExactDeedOk
namespace Go.Proofs.Ytjfmfcdempkpdaa
/-- The row, under a short name, for the claim. -/
theorem fnExactDeedOk_holds : Rows.FnExactDeedOkSaid := fnExactDeedOk.proved
end Go.Proofs.Ytjfmfcdempkpdaa
