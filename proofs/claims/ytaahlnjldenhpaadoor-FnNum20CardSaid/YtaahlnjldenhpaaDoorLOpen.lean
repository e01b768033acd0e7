/- Open: a law's disk and a law's row of numbers, laid open. Conditions: none. -/
import Derived.Test.YtaahlnjldenhpaaDoorLG
import Derived.Test.YtaahlnjldenhpaaDoorLT
import Derived.Test.YtaahlnjldenhpaaDoorLMark
import Derived.Test.YtaahlnjldenhpaaDoorLNums
import Derived.Test.YtaahlnjldenhpaaDoorLE
namespace Go.Proofs.YtaahlnjldenhpaaDoor
open Go.BL Go.RowKit
set_option linter.unusedVariables false
set_option linter.unusedSimpArgs false
set_option maxRecDepth 100000

open Go.ChangeShapes Go.WideShapes Go.ChangeAt Go.Joins Go.Deep
section
variable {H : Type} {enc0 : TypeId × Value → H} {W : World} {hd : Bool}
def goodF (f : File) : Prop := f.safe.size ≤ 1000000000000000 ∧ f.late.size ≤ 1000000000000000
instance : Inhabited File := ⟨⟨0, ⟨#[]⟩, ⟨#[]⟩⟩⟩
theorem open_ints {v : Value} {d : DataW H} {p : List MemPlace} (hok : Value.okWide Tryd.prog W .any 0 24 v) (h : DataW.Trod enc0 Tryd.prog W 0 (fun _ => true) hd 24 v d p) (hw : ∀ n ∈ d.weights Tryd.prog 24, n ≤ reachBytes) :
    ∃ xs : List Int, VA (fun _ => none) (MW W) (.one (.im (xs.map intC))) v ∧ xs.length ≤ 1000000000000000 := by
  obtain ⟨fuel, hf⟩ := h
  have hcell := slice_ok Tryd.underlying24 hok
  have hv : v.cells.toList = [v] := by
    obtain ⟨a, n, c, rfl⟩ := okWide_slice Tryd.underlying24 hok
    rfl
  rw [hv] at hf
  obtain ⟨xs, hx, hl, _⟩ := open_row (enc := intC) (k := 1) Tryd.underlying24 (by kernel_rfl) (fun _ => rfl) (of_decide_eq_true (by kernel_rfl)) hcell hf hw (elem_int Tryd.underlying3 (by kernel_rfl))
  exact ⟨xs, hx, hl⟩
theorem elem_byte : Elem enc0 Tryd.prog W hd 5 byteC (fun _ => True) := fun fuel cs x hl h hw => by
  have hc : Tryd.prog.cellsOf 5 = 1 := by kernel_rfl
  rw [hc] at hl
  match cs, hl with
  | [v], _ =>
    obtain ⟨n, rfl, hwf⟩ := one_int Tryd.underlying5 h
    have hn : 0 ≤ n ∧ n ≤ 255 := by simpa [Lit.wf, IntKind.min, IntKind.max, IntKind.bits, IntKind.signed] using hwf
    refine ⟨UInt8.ofNat n.toNat, ⟨rfl, fun j c hj => ?_⟩, trivial⟩
    rcases j with _ | j
    · simp [byteC] at hj
      subst hj
      refine ⟨_, rfl, ?_⟩
      have : max n 0 % 256 = n := by omega
      rw [this]; exact .c _ rfl
    · simp [byteC] at hj
theorem open_bytes {v : Value} {d : DataW H} {p : List MemPlace} (hok : Value.okWide Tryd.prog W .any 0 37 v) (h : DataW.Trod enc0 Tryd.prog W 0 (fun _ => true) hd 37 v d p) (hw : ∀ n ∈ d.weights Tryd.prog 37, n ≤ reachBytes) :
    ∃ xs : List UInt8, VA (fun _ => none) (MW W) (.one (.im (xs.map byteC))) v ∧ xs.length ≤ 1000000000000000 := by
  obtain ⟨fuel, hf⟩ := h
  have hcell := slice_ok Tryd.underlying37 hok
  have hv : v.cells.toList = [v] := by
    obtain ⟨a, n, c, rfl⟩ := okWide_slice Tryd.underlying37 hok
    rfl
  rw [hv] at hf
  obtain ⟨xs, hx, hl, _⟩ := open_row (enc := byteC) (k := 1) Tryd.underlying37 (by kernel_rfl) (fun _ => rfl) (of_decide_eq_true (by kernel_rfl)) hcell hf hw elem_byte
  exact ⟨xs, hx, hl⟩
end
end Go.Proofs.YtaahlnjldenhpaaDoor
