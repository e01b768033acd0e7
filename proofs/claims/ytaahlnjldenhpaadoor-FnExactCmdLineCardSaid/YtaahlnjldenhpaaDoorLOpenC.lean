/- OpenC: a law's command, laid open. Conditions: none. -/
import Derived.Test.YtaahlnjldenhpaaDoorLG
import Derived.Test.YtaahlnjldenhpaaDoorLT
import Derived.Test.YtaahlnjldenhpaaDoorLOpen
import Derived.Test.YtaahlnjldenhpaaDoorLCmd
import Derived.Test.YtaahlnjldenhpaaDoorLE
namespace Go.Proofs.YtaahlnjldenhpaaDoor
open Go.BL Go.RowKit
set_option linter.unusedVariables false
set_option linter.unusedSimpArgs false
set_option maxRecDepth 100000

open Go.ChangeShapes Go.WideShapes Go.ChangeAt Go.Joins Go.Deep
section
variable {H : Type} {enc0 : TypeId × Value → H} {W : World} {hd : Bool}
theorem open_cmd {v : Value} {d : DataW H} {p : List MemPlace} (hok : Value.okWide Tryd.prog W .any 0 26 v) (h : DataW.Trod enc0 Tryd.prog W 0 (fun _ => true) hd 26 v d p) (hw : ∀ n ∈ d.weights Tryd.prog 26, n ≤ reachBytes) :
    ∃ c : Cmd, VA (fun _ => none) (MW W) (.agg (cmdC c)) v ∧ c.args.length ≤ 1000000000000000 := by
  obtain ⟨v0, v1, y0, y1, m, rfl, rfl, _, e0, e1⟩ := open_agg2 Tryd.underlying26 (by kernel_rfl) (by kernel_rfl) hok h
  obtain ⟨kind, rfl, _⟩ := one_int Tryd.underlying3 e0
  have hok1 := struct_cell (i := 1) Tryd.underlying26 (ts := [3, 24]) (by kernel_rfl) hok rfl rfl rfl
  obtain ⟨xs, hx, hl, _⟩ := open_row (enc := intC) (k := 1) Tryd.underlying24 (by kernel_rfl) (fun _ => rfl) (of_decide_eq_true (by kernel_rfl)) hok1 e1 (fun n hn => hw n (by
    simp only [DataW.weights, Tryd.underlying26, List.map_cons, List.map_nil, DataW.weightsEach]
    exact List.mem_append_right _ (List.mem_append_left _ hn))) (elem_int Tryd.underlying3 (by kernel_rfl))
  refine ⟨⟨kind, xs⟩, ⟨[.int .i64 kind, v1], rfl, rfl, fun j x hj => ?_⟩, hl⟩
  rcases j with _ | _ | j
  · simp [cmdC] at hj; subst hj; exact ⟨_, rfl, .c _ rfl⟩
  · simp [cmdC] at hj; subst hj; exact ⟨_, rfl, hx⟩
  · simp [cmdC] at hj
end
end Go.Proofs.YtaahlnjldenhpaaDoor
