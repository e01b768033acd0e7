/- OpenB: a law's books, laid open. Conditions: none. -/
import Derived.Test.YtedkpjaojdkpcaaGreatLG
import Derived.Test.YtedkpjaojdkpcaaGreatLT
import Derived.Test.YtedkpjaojdkpcaaGreatLOpen
import Derived.Test.YtedkpjaojdkpcaaGreatLBooks8
import Derived.Test.YtedkpjaojdkpcaaGreatLE
namespace Go.Proofs.YtedkpjaojdkpcaaGreat
open Go.BL Go.RowKit
set_option linter.unusedVariables false
set_option linter.unusedSimpArgs false
set_option maxRecDepth 100000

open Go.ChangeShapes Go.WideShapes Go.ChangeAt Go.Joins Go.Deep
section
variable {H : Type} {enc0 : TypeId × Value → H} {W : World} {hd : Bool}
theorem elem_Account : Elem enc0 Tryz.prog W hd 124 accountC (fun _ => True) := fun fuel cs x hl h hw => by
  have hc : Tryz.prog.cellsOf 124 = 2 := by kernel_rfl
  rw [hc] at hl
  match cs, hl with
  | [u0, u1], _ =>
    obtain ⟨xs, m, _, rfl, _, hlen, hf⟩ := DataW.trod_struct Tryz.underlying124 h
    match xs, hlen with
    | [y0, y1], _ =>
      have e3 : Tryz.prog.cellsOf 3 = 1 := by kernel_rfl
      have h0 := hf 0 _ rfl
      simp [e3] at h0
      obtain ⟨a0, rfl, _⟩ := one_int Tryz.underlying3 h0
      have h1 := hf 1 _ rfl
      simp [e3] at h1
      obtain ⟨a1, rfl, _⟩ := one_int Tryz.underlying3 h1
      refine ⟨⟨a0, a1⟩, ⟨rfl, fun j z hj => ?_⟩, trivial⟩
      rcases j with _ | _ | j
      · simp [accountC] at hj; subst hj; exact ⟨_, rfl, .c _ rfl⟩
      · simp [accountC] at hj; subst hj; exact ⟨_, rfl, .c _ rfl⟩
      · simp [accountC] at hj
theorem elem_Instr : Elem enc0 Tryz.prog W hd 126 accountC (fun _ => True) := fun fuel cs x hl h hw => by
  have hc : Tryz.prog.cellsOf 126 = 2 := by kernel_rfl
  rw [hc] at hl
  match cs, hl with
  | [u0, u1], _ =>
    obtain ⟨xs, m, _, rfl, _, hlen, hf⟩ := DataW.trod_struct Tryz.underlying126 h
    match xs, hlen with
    | [y0, y1], _ =>
      have e3 : Tryz.prog.cellsOf 3 = 1 := by kernel_rfl
      have h0 := hf 0 _ rfl
      simp [e3] at h0
      obtain ⟨a0, rfl, _⟩ := one_int Tryz.underlying3 h0
      have h1 := hf 1 _ rfl
      simp [e3] at h1
      obtain ⟨a1, rfl, _⟩ := one_int Tryz.underlying3 h1
      refine ⟨⟨a0, a1⟩, ⟨rfl, fun j z hj => ?_⟩, trivial⟩
      rcases j with _ | _ | j
      · simp [accountC] at hj; subst hj; exact ⟨_, rfl, .c _ rfl⟩
      · simp [accountC] at hj; subst hj; exact ⟨_, rfl, .c _ rfl⟩
      · simp [accountC] at hj
theorem elem_Bal : Elem enc0 Tryz.prog W hd 128 balC (fun _ => True) := fun fuel cs x hl h hw => by
  have hc : Tryz.prog.cellsOf 128 = 3 := by kernel_rfl
  rw [hc] at hl
  match cs, hl with
  | [u0, u1, u2], _ =>
    obtain ⟨xs, m, _, rfl, _, hlen, hf⟩ := DataW.trod_struct Tryz.underlying128 h
    match xs, hlen with
    | [y0, y1, y2], _ =>
      have e3 : Tryz.prog.cellsOf 3 = 1 := by kernel_rfl
      have h0 := hf 0 _ rfl
      simp [e3] at h0
      obtain ⟨a0, rfl, _⟩ := one_int Tryz.underlying3 h0
      have h1 := hf 1 _ rfl
      simp [e3] at h1
      obtain ⟨a1, rfl, _⟩ := one_int Tryz.underlying3 h1
      have h2 := hf 2 _ rfl
      simp [e3] at h2
      obtain ⟨a2, rfl, _⟩ := one_int Tryz.underlying3 h2
      refine ⟨⟨a0, a1, a2⟩, ⟨rfl, fun j z hj => ?_⟩, trivial⟩
      rcases j with _ | _ | _ | j
      · simp [balC] at hj; subst hj; exact ⟨_, rfl, .c _ rfl⟩
      · simp [balC] at hj; subst hj; exact ⟨_, rfl, .c _ rfl⟩
      · simp [balC] at hj; subst hj; exact ⟨_, rfl, .c _ rfl⟩
      · simp [balC] at hj
theorem elem_Lot : Elem enc0 Tryz.prog W hd 130 lotC (fun _ => True) := fun fuel cs x hl h hw => by
  have hc : Tryz.prog.cellsOf 130 = 5 := by kernel_rfl
  rw [hc] at hl
  match cs, hl with
  | [u0, u1, u2, u3, u4], _ =>
    obtain ⟨xs, m, _, rfl, _, hlen, hf⟩ := DataW.trod_struct Tryz.underlying130 h
    match xs, hlen with
    | [y0, y1, y2, y3, y4], _ =>
      have e3 : Tryz.prog.cellsOf 3 = 1 := by kernel_rfl
      have h0 := hf 0 _ rfl
      simp [e3] at h0
      obtain ⟨a0, rfl, _⟩ := one_int Tryz.underlying3 h0
      have h1 := hf 1 _ rfl
      simp [e3] at h1
      obtain ⟨a1, rfl, _⟩ := one_int Tryz.underlying3 h1
      have h2 := hf 2 _ rfl
      simp [e3] at h2
      obtain ⟨a2, rfl, _⟩ := one_int Tryz.underlying3 h2
      have h3 := hf 3 _ rfl
      simp [e3] at h3
      obtain ⟨a3, rfl, _⟩ := one_int Tryz.underlying3 h3
      have h4 := hf 4 _ rfl
      simp [e3] at h4
      obtain ⟨a4, rfl, _⟩ := one_int Tryz.underlying3 h4
      refine ⟨⟨a0, a1, a2, a3, a4⟩, ⟨rfl, fun j z hj => ?_⟩, trivial⟩
      rcases j with _ | _ | _ | _ | _ | j
      · simp [lotC] at hj; subst hj; exact ⟨_, rfl, .c _ rfl⟩
      · simp [lotC] at hj; subst hj; exact ⟨_, rfl, .c _ rfl⟩
      · simp [lotC] at hj; subst hj; exact ⟨_, rfl, .c _ rfl⟩
      · simp [lotC] at hj; subst hj; exact ⟨_, rfl, .c _ rfl⟩
      · simp [lotC] at hj; subst hj; exact ⟨_, rfl, .c _ rfl⟩
      · simp [lotC] at hj
theorem elem_Trade : Elem enc0 Tryz.prog W hd 132 tradeC (fun _ => True) := fun fuel cs x hl h hw => by
  have hc : Tryz.prog.cellsOf 132 = 8 := by kernel_rfl
  rw [hc] at hl
  match cs, hl with
  | [u0, u1, u2, u3, u4, u5, u6, u7], _ =>
    obtain ⟨xs, m, _, rfl, _, hlen, hf⟩ := DataW.trod_struct Tryz.underlying132 h
    match xs, hlen with
    | [y0, y1, y2, y3, y4, y5, y6, y7], _ =>
      have e3 : Tryz.prog.cellsOf 3 = 1 := by kernel_rfl
      have h0 := hf 0 _ rfl
      simp [e3] at h0
      obtain ⟨a0, rfl, _⟩ := one_int Tryz.underlying3 h0
      have h1 := hf 1 _ rfl
      simp [e3] at h1
      obtain ⟨a1, rfl, _⟩ := one_int Tryz.underlying3 h1
      have h2 := hf 2 _ rfl
      simp [e3] at h2
      obtain ⟨a2, rfl, _⟩ := one_int Tryz.underlying3 h2
      have h3 := hf 3 _ rfl
      simp [e3] at h3
      obtain ⟨a3, rfl, _⟩ := one_int Tryz.underlying3 h3
      have h4 := hf 4 _ rfl
      simp [e3] at h4
      obtain ⟨a4, rfl, _⟩ := one_int Tryz.underlying3 h4
      have h5 := hf 5 _ rfl
      simp [e3] at h5
      obtain ⟨a5, rfl, _⟩ := one_int Tryz.underlying3 h5
      have h6 := hf 6 _ rfl
      simp [e3] at h6
      obtain ⟨a6, rfl, _⟩ := one_int Tryz.underlying3 h6
      have h7 := hf 7 _ rfl
      simp [e3] at h7
      obtain ⟨a7, rfl, _⟩ := one_int Tryz.underlying3 h7
      refine ⟨⟨a0, a1, a2, a3, a4, a5, a6, a7⟩, ⟨rfl, fun j z hj => ?_⟩, trivial⟩
      rcases j with _ | _ | _ | _ | _ | _ | _ | _ | j
      · simp [tradeC] at hj; subst hj; exact ⟨_, rfl, .c _ rfl⟩
      · simp [tradeC] at hj; subst hj; exact ⟨_, rfl, .c _ rfl⟩
      · simp [tradeC] at hj; subst hj; exact ⟨_, rfl, .c _ rfl⟩
      · simp [tradeC] at hj; subst hj; exact ⟨_, rfl, .c _ rfl⟩
      · simp [tradeC] at hj; subst hj; exact ⟨_, rfl, .c _ rfl⟩
      · simp [tradeC] at hj; subst hj; exact ⟨_, rfl, .c _ rfl⟩
      · simp [tradeC] at hj; subst hj; exact ⟨_, rfl, .c _ rfl⟩
      · simp [tradeC] at hj; subst hj; exact ⟨_, rfl, .c _ rfl⟩
      · simp [tradeC] at hj
theorem open_books {v : Value} {d : DataW H} {p : List MemPlace} (hok : Value.okWide Tryz.prog W .any 0 28 v) (h : DataW.Trod enc0 Tryz.prog W 0 (fun _ => true) hd 28 v d p) (hw : ∀ n ∈ d.weights Tryz.prog 28, n ≤ reachBytes) :
    ∃ b : Books, VA (fun _ => none) (MW W) (.agg (booksC b)) v ∧ Large b := by
  obtain ⟨cs, rfl, hsz⟩ := okWide_struct Tryz.underlying28 hok
  have hc6 : Tryz.prog.cellsOf 28 = 6 := by kernel_rfl
  rw [hc6] at hsz
  obtain ⟨l⟩ := cs
  match l, hsz with
  | [v0, v1, v2, v3, v4, v5], _ =>
    obtain ⟨fuel, hf⟩ := h
    obtain ⟨xs, m, _, hx, _, hlen, hfs⟩ := DataW.trod_struct Tryz.underlying28 hf
    match xs, hlen with
    | [y0, y1, y2, y3, y4, y5], _ =>
      simp only [Prod.mk.injEq] at hx
      obtain ⟨rfl, rfl⟩ := hx
      have e0 : Tryz.prog.cellsOf 22 = 1 := by kernel_rfl
      have e1 : Tryz.prog.cellsOf 23 = 1 := by kernel_rfl
      have e2 : Tryz.prog.cellsOf 24 = 1 := by kernel_rfl
      have e3 : Tryz.prog.cellsOf 25 = 1 := by kernel_rfl
      have e4 : Tryz.prog.cellsOf 26 = 1 := by kernel_rfl
      have e5 : Tryz.prog.cellsOf 3 = 1 := by kernel_rfl
      have g0 := hfs 0 _ rfl
      simp [Value.cells, e0] at g0
      have k0 := struct_cell (i := 0) Tryz.underlying28 (ts := [22, 23, 24, 25, 26, 3]) (by kernel_rfl) hok rfl rfl rfl
      obtain ⟨x0, X0, L0, _⟩ := open_row (k := 2) Tryz.underlying22 (by kernel_rfl) (fun _ => rfl) (of_decide_eq_true (by kernel_rfl)) k0 g0 (fun n hn => hw n (by
        simp only [DataW.weights, Tryz.underlying28, List.map_cons, List.map_nil, DataW.weightsEach]
        exact List.mem_append_left _ hn)) (elem_Account (enc0 := enc0))
      have g1 := hfs 1 _ rfl
      simp [Value.cells, e1] at g1
      have k1 := struct_cell (i := 1) Tryz.underlying28 (ts := [22, 23, 24, 25, 26, 3]) (by kernel_rfl) hok rfl rfl rfl
      obtain ⟨x1, X1, L1, _⟩ := open_row (k := 2) Tryz.underlying23 (by kernel_rfl) (fun _ => rfl) (of_decide_eq_true (by kernel_rfl)) k1 g1 (fun n hn => hw n (by
        simp only [DataW.weights, Tryz.underlying28, List.map_cons, List.map_nil, DataW.weightsEach]
        exact List.mem_append_right _ (List.mem_append_left _ hn))) (elem_Instr (enc0 := enc0))
      have g2 := hfs 2 _ rfl
      simp [Value.cells, e2] at g2
      have k2 := struct_cell (i := 2) Tryz.underlying28 (ts := [22, 23, 24, 25, 26, 3]) (by kernel_rfl) hok rfl rfl rfl
      obtain ⟨x2, X2, L2, _⟩ := open_row (k := 3) Tryz.underlying24 (by kernel_rfl) (fun _ => rfl) (of_decide_eq_true (by kernel_rfl)) k2 g2 (fun n hn => hw n (by
        simp only [DataW.weights, Tryz.underlying28, List.map_cons, List.map_nil, DataW.weightsEach]
        exact List.mem_append_right _ (List.mem_append_right _ (List.mem_append_left _ hn)))) (elem_Bal (enc0 := enc0))
      have g3 := hfs 3 _ rfl
      simp [Value.cells, e3] at g3
      have k3 := struct_cell (i := 3) Tryz.underlying28 (ts := [22, 23, 24, 25, 26, 3]) (by kernel_rfl) hok rfl rfl rfl
      obtain ⟨x3, X3, L3, _⟩ := open_row (k := 5) Tryz.underlying25 (by kernel_rfl) (fun _ => rfl) (of_decide_eq_true (by kernel_rfl)) k3 g3 (fun n hn => hw n (by
        simp only [DataW.weights, Tryz.underlying28, List.map_cons, List.map_nil, DataW.weightsEach]
        exact List.mem_append_right _ (List.mem_append_right _ (List.mem_append_right _ (List.mem_append_left _ hn))))) (elem_Lot (enc0 := enc0))
      have g4 := hfs 4 _ rfl
      simp [Value.cells, e4] at g4
      have k4 := struct_cell (i := 4) Tryz.underlying28 (ts := [22, 23, 24, 25, 26, 3]) (by kernel_rfl) hok rfl rfl rfl
      obtain ⟨x4, X4, L4, _⟩ := open_row (k := 8) Tryz.underlying26 (by kernel_rfl) (fun _ => rfl) (of_decide_eq_true (by kernel_rfl)) k4 g4 (fun n hn => hw n (by
        simp only [DataW.weights, Tryz.underlying28, List.map_cons, List.map_nil, DataW.weightsEach]
        exact List.mem_append_right _ (List.mem_append_right _ (List.mem_append_right _ (List.mem_append_right _ (List.mem_append_left _ hn)))))) (elem_Trade (enc0 := enc0))
      have g5 := hfs 5 _ rfl
      simp [Value.cells, e5] at g5
      obtain ⟨lot, rfl, _⟩ := one_int Tryz.underlying3 g5
      refine ⟨⟨x0, x1, x2, x3, x4, lot⟩, ⟨[v0, v1, v2, v3, v4, .int .i64 lot], rfl, rfl, fun j x hj => ?_⟩, ⟨L0, L1, L2, L3, L4⟩⟩
      rcases j with _ | _ | _ | _ | _ | _ | j
      · simp [booksC] at hj; subst hj; exact ⟨_, rfl, X0⟩
      · simp [booksC] at hj; subst hj; exact ⟨_, rfl, X1⟩
      · simp [booksC] at hj; subst hj; exact ⟨_, rfl, X2⟩
      · simp [booksC] at hj; subst hj; exact ⟨_, rfl, X3⟩
      · simp [booksC] at hj; subst hj; exact ⟨_, rfl, X4⟩
      · simp [booksC] at hj; subst hj; exact ⟨_, rfl, .c _ rfl⟩
      · simp [booksC] at hj
end
end Go.Proofs.YtedkpjaojdkpcaaGreat
