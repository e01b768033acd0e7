/- Open: a law's disk and a law's row of numbers, laid open. Conditions: none. -/
import Derived.Test.YtedkpjaojdkpcaaGreatLG
import Derived.Test.YtedkpjaojdkpcaaGreatLT
import Derived.Test.YtedkpjaojdkpcaaGreatLMark
import Derived.Test.YtedkpjaojdkpcaaGreatLNums
import Derived.Test.YtedkpjaojdkpcaaGreatLE
namespace Go.Proofs.YtedkpjaojdkpcaaGreat
open Go.BL Go.RowKit
set_option linter.unusedVariables false
set_option linter.unusedSimpArgs false
set_option maxRecDepth 100000

open Go.ChangeShapes Go.WideShapes Go.ChangeAt Go.Joins Go.Deep
section
variable {H : Type} {enc0 : TypeId × Value → H} {W : World} {hd : Bool}
def goodF (f : File) : Prop := f.safe.size ≤ 1000000000000000 ∧ f.late.size ≤ 1000000000000000
instance : Inhabited File := ⟨⟨0, ⟨#[]⟩, ⟨#[]⟩⟩⟩
theorem elem_file : Elem enc0 Tryz.prog W hd 142 fileC goodF := fun fuel cs x hl h hw => by
  have hc : Tryz.prog.cellsOf 142 = 3 := by kernel_rfl
  rw [hc] at hl
  match cs, hl with
  | [u, v, w], _ =>
    obtain ⟨y0, y1, y2, m, rfl, _, h0, h1, h2⟩ := trod_struct3 Tryz.underlying142 h
    have e3 : Tryz.prog.cellsOf 3 = 1 := by kernel_rfl
    have e9 : Tryz.prog.cellsOf 9 = 1 := by kernel_rfl
    simp only [e3, e9, List.drop_zero, List.drop_succ_cons, List.take_succ_cons, List.take_zero] at h0 h1 h2
    obtain ⟨a, rfl, _⟩ := one_int Tryz.underlying3 h0
    obtain ⟨b, hb, eb, _⟩ := DataW.trod_string Tryz.underlying9 h1
    obtain ⟨c, hc, ec, _⟩ := DataW.trod_string Tryz.underlying9 h2
    simp at hb hc
    subst hb hc
    refine ⟨⟨a, b, c⟩, ⟨rfl, fun j z hj => ?_⟩, reach_le (hw _ (by rw [eb]; simp [DataW.weights, Tryz.underlying142, DataW.weightsEach])), reach_le (hw _ (by rw [ec]; simp [DataW.weights, Tryz.underlying142, DataW.weightsEach]))⟩
    rcases j with _ | _ | _ | j
    · simp [fileC] at hj; subst hj; exact ⟨_, rfl, .c _ rfl⟩
    · simp [fileC] at hj; subst hj; exact ⟨_, rfl, .c _ rfl⟩
    · simp [fileC] at hj; subst hj; exact ⟨_, rfl, .c _ rfl⟩
    · simp [fileC] at hj
theorem open_disk {v : Value} {d : DataW H} {p : List MemPlace} (hok : Value.okWide Tryz.prog W .any 0 48 v) (h : DataW.Trod enc0 Tryz.prog W 0 (fun _ => true) hd 48 v d p) (hw : ∀ n ∈ d.weights Tryz.prog 48, n ≤ reachBytes) :
    ∃ d' : Disk, VA (fun _ => none) (MW W) (.agg (diskC d')) v ∧ SizedF d'.files ∧ d'.files.length ≤ 1000000000000000 := by
  obtain ⟨v0, v1, y0, y1, m, rfl, rfl, _, e0, e1⟩ := open_agg2 Tryz.underlying48 (by kernel_rfl) (by kernel_rfl) hok h
  obtain ⟨room, rfl, _⟩ := one_int Tryz.underlying3 e0
  have hok1 := struct_cell (i := 1) Tryz.underlying48 (ts := [3, 46]) (by kernel_rfl) hok rfl rfl rfl
  obtain ⟨xs, hx, hl, hg⟩ := open_row (k := 3) Tryz.underlying46 (by kernel_rfl) fileC_len (of_decide_eq_true (by kernel_rfl)) hok1 e1 (fun n hn => hw n (by
    simp only [DataW.weights, Tryz.underlying48, List.map_cons, List.map_nil, DataW.weightsEach]
    exact List.mem_append_right _ (List.mem_append_left _ hn))) elem_file
  refine ⟨⟨room, xs⟩, ⟨[.int .i64 room, v1], rfl, rfl, fun j x hj => ?_⟩, hg, hl⟩
  rcases j with _ | _ | j
  · simp [diskC] at hj; subst hj; exact ⟨_, rfl, .c _ rfl⟩
  · simp [diskC] at hj; subst hj; exact ⟨_, rfl, hx⟩
  · simp [diskC] at hj
theorem open_ints {v : Value} {d : DataW H} {p : List MemPlace} (hok : Value.okWide Tryz.prog W .any 0 86 v) (h : DataW.Trod enc0 Tryz.prog W 0 (fun _ => true) hd 86 v d p) (hw : ∀ n ∈ d.weights Tryz.prog 86, n ≤ reachBytes) :
    ∃ xs : List Int, VA (fun _ => none) (MW W) (.one (.im (xs.map intC))) v ∧ xs.length ≤ 1000000000000000 := by
  obtain ⟨fuel, hf⟩ := h
  have hcell := slice_ok Tryz.underlying86 hok
  have hv : v.cells.toList = [v] := by
    obtain ⟨a, n, c, rfl⟩ := okWide_slice Tryz.underlying86 hok
    rfl
  rw [hv] at hf
  obtain ⟨xs, hx, hl, _⟩ := open_row (enc := intC) (k := 1) Tryz.underlying86 (by kernel_rfl) (fun _ => rfl) (of_decide_eq_true (by kernel_rfl)) hcell hf hw (elem_int Tryz.underlying3 (by kernel_rfl))
  exact ⟨xs, hx, hl⟩
theorem elem_byte : Elem enc0 Tryz.prog W hd 5 byteC (fun _ => True) := fun fuel cs x hl h hw => by
  have hc : Tryz.prog.cellsOf 5 = 1 := by kernel_rfl
  rw [hc] at hl
  match cs, hl with
  | [v], _ =>
    obtain ⟨n, rfl, hwf⟩ := one_int Tryz.underlying5 h
    have hn : 0 ≤ n ∧ n ≤ 255 := by simpa [Lit.wf, IntKind.min, IntKind.max, IntKind.bits, IntKind.signed] using hwf
    refine ⟨UInt8.ofNat n.toNat, ⟨rfl, fun j c hj => ?_⟩, trivial⟩
    rcases j with _ | j
    · simp [byteC] at hj
      subst hj
      refine ⟨_, rfl, ?_⟩
      have : max n 0 % 256 = n := by omega
      rw [this]; exact .c _ rfl
    · simp [byteC] at hj
theorem open_bytes {v : Value} {d : DataW H} {p : List MemPlace} (hok : Value.okWide Tryz.prog W .any 0 62 v) (h : DataW.Trod enc0 Tryz.prog W 0 (fun _ => true) hd 62 v d p) (hw : ∀ n ∈ d.weights Tryz.prog 62, n ≤ reachBytes) :
    ∃ xs : List UInt8, VA (fun _ => none) (MW W) (.one (.im (xs.map byteC))) v ∧ xs.length ≤ 1000000000000000 := by
  obtain ⟨fuel, hf⟩ := h
  have hcell := slice_ok Tryz.underlying62 hok
  have hv : v.cells.toList = [v] := by
    obtain ⟨a, n, c, rfl⟩ := okWide_slice Tryz.underlying62 hok
    rfl
  rw [hv] at hf
  obtain ⟨xs, hx, hl, _⟩ := open_row (enc := byteC) (k := 1) Tryz.underlying62 (by kernel_rfl) (fun _ => rfl) (of_decide_eq_true (by kernel_rfl)) hcell hf hw elem_byte
  exact ⟨xs, hx, hl⟩
end
end Go.Proofs.YtedkpjaojdkpcaaGreat
