/- OpenE: a law's save and a law's engine, laid open. Conditions: none. -/
import Derived.Test.YtedkpjaojdkpcaaGreatLG
import Derived.Test.YtedkpjaojdkpcaaGreatLT
import Derived.Test.YtedkpjaojdkpcaaGreatLOpenB
import Derived.Test.YtedkpjaojdkpcaaGreatLEngine
import Derived.Test.YtedkpjaojdkpcaaGreatLE
namespace Go.Proofs.YtedkpjaojdkpcaaGreat
open Go.BL Go.RowKit
set_option linter.unusedVariables false
set_option linter.unusedSimpArgs false
set_option maxRecDepth 100000

open Go.ChangeShapes Go.WideShapes Go.ChangeAt Go.Joins Go.Deep
section
variable {H : Type} {enc0 : TypeId × Value → H} {W : World} {hd : Bool}
theorem open_booksC {fuel : Nat} {v0 v1 v2 v3 v4 v5 : Value} {x : DataW H × List MemPlace} (k0 : Cell.okWide Tryz.prog W .any 0 22 v0) (k1 : Cell.okWide Tryz.prog W .any 0 23 v1) (k2 : Cell.okWide Tryz.prog W .any 0 24 v2) (k3 : Cell.okWide Tryz.prog W .any 0 25 v3) (k4 : Cell.okWide Tryz.prog W .any 0 26 v4) (h : DataW.trod enc0 Tryz.prog W 0 (fun _ => true) hd fuel 28 [v0, v1, v2, v3, v4, v5] = some x) (hw : ∀ n ∈ x.1.weights Tryz.prog 28, n ≤ reachBytes) : ∃ b : Books, SaysC W (booksC b) [v0, v1, v2, v3, v4, v5] ∧ Large b := by
  obtain ⟨xs, m, _, rfl, _, hlen, hfs⟩ := DataW.trod_struct Tryz.underlying28 h
  match xs, hlen with
  | [y0, y1, y2, y3, y4, y5], _ =>
    have e0 : Tryz.prog.cellsOf 22 = 1 := by kernel_rfl
    have e1 : Tryz.prog.cellsOf 23 = 1 := by kernel_rfl
    have e2 : Tryz.prog.cellsOf 24 = 1 := by kernel_rfl
    have e3 : Tryz.prog.cellsOf 25 = 1 := by kernel_rfl
    have e4 : Tryz.prog.cellsOf 26 = 1 := by kernel_rfl
    have e5 : Tryz.prog.cellsOf 3 = 1 := by kernel_rfl
    have g0 := hfs 0 _ rfl
    simp [e0] at g0
    obtain ⟨x0, X0, L0, _⟩ := open_row (k := 2) Tryz.underlying22 (by kernel_rfl) (fun _ => rfl) (of_decide_eq_true (by kernel_rfl)) k0 g0 (fun n hn => hw n (by
      simp only [DataW.weights, Tryz.underlying28, List.map_cons, List.map_nil, DataW.weightsEach]
      exact List.mem_append_left _ hn)) (elem_Account (enc0 := enc0))
    have g1 := hfs 1 _ rfl
    simp [e1] at g1
    obtain ⟨x1, X1, L1, _⟩ := open_row (k := 2) Tryz.underlying23 (by kernel_rfl) (fun _ => rfl) (of_decide_eq_true (by kernel_rfl)) k1 g1 (fun n hn => hw n (by
      simp only [DataW.weights, Tryz.underlying28, List.map_cons, List.map_nil, DataW.weightsEach]
      exact List.mem_append_right _ (List.mem_append_left _ hn))) (elem_Instr (enc0 := enc0))
    have g2 := hfs 2 _ rfl
    simp [e2] at g2
    obtain ⟨x2, X2, L2, _⟩ := open_row (k := 3) Tryz.underlying24 (by kernel_rfl) (fun _ => rfl) (of_decide_eq_true (by kernel_rfl)) k2 g2 (fun n hn => hw n (by
      simp only [DataW.weights, Tryz.underlying28, List.map_cons, List.map_nil, DataW.weightsEach]
      exact List.mem_append_right _ (List.mem_append_right _ (List.mem_append_left _ hn)))) (elem_Bal (enc0 := enc0))
    have g3 := hfs 3 _ rfl
    simp [e3] at g3
    obtain ⟨x3, X3, L3, _⟩ := open_row (k := 5) Tryz.underlying25 (by kernel_rfl) (fun _ => rfl) (of_decide_eq_true (by kernel_rfl)) k3 g3 (fun n hn => hw n (by
      simp only [DataW.weights, Tryz.underlying28, List.map_cons, List.map_nil, DataW.weightsEach]
      exact List.mem_append_right _ (List.mem_append_right _ (List.mem_append_right _ (List.mem_append_left _ hn))))) (elem_Lot (enc0 := enc0))
    have g4 := hfs 4 _ rfl
    simp [e4] at g4
    obtain ⟨x4, X4, L4, _⟩ := open_row (k := 8) Tryz.underlying26 (by kernel_rfl) (fun _ => rfl) (of_decide_eq_true (by kernel_rfl)) k4 g4 (fun n hn => hw n (by
      simp only [DataW.weights, Tryz.underlying28, List.map_cons, List.map_nil, DataW.weightsEach]
      exact List.mem_append_right _ (List.mem_append_right _ (List.mem_append_right _ (List.mem_append_right _ (List.mem_append_left _ hn)))))) (elem_Trade (enc0 := enc0))
    have g5 := hfs 5 _ rfl
    simp [e5] at g5
    obtain ⟨lot, rfl, _⟩ := one_int Tryz.underlying3 g5
    refine ⟨⟨x0, x1, x2, x3, x4, lot⟩, ⟨rfl, fun j x hj => ?_⟩, ⟨L0, L1, L2, L3, L4⟩⟩
    rcases j with _ | _ | _ | _ | _ | _ | j
    · simp [booksC] at hj; subst hj; exact ⟨_, rfl, X0⟩
    · simp [booksC] at hj; subst hj; exact ⟨_, rfl, X1⟩
    · simp [booksC] at hj; subst hj; exact ⟨_, rfl, X2⟩
    · simp [booksC] at hj; subst hj; exact ⟨_, rfl, X3⟩
    · simp [booksC] at hj; subst hj; exact ⟨_, rfl, X4⟩
    · simp [booksC] at hj; subst hj; exact ⟨_, rfl, .c _ rfl⟩
    · simp [booksC] at hj
theorem open_diskC {fuel : Nat} {v0 v1 : Value} {x : DataW H × List MemPlace} (k1 : Cell.okWide Tryz.prog W .any 0 46 v1) (h : DataW.trod enc0 Tryz.prog W 0 (fun _ => true) hd fuel 48 [v0, v1] = some x) (hw : ∀ n ∈ x.1.weights Tryz.prog 48, n ≤ reachBytes) : ∃ d : Disk, SaysC W (diskC d) [v0, v1] ∧ SizedF d.files ∧ d.files.length ≤ 1000000000000000 := by
  obtain ⟨xs, m, _, rfl, _, hlen, hfs⟩ := DataW.trod_struct Tryz.underlying48 h
  match xs, hlen with
  | [y0, y1], _ =>
    have e0 : Tryz.prog.cellsOf 3 = 1 := by kernel_rfl
    have e1 : Tryz.prog.cellsOf 46 = 1 := by kernel_rfl
    have g0 := hfs 0 _ rfl
    simp [e0] at g0
    have g1 := hfs 1 _ rfl
    simp [e1] at g1
    obtain ⟨room, rfl, _⟩ := one_int Tryz.underlying3 g0
    obtain ⟨fs, hx, hl, hg⟩ := open_row (k := 3) Tryz.underlying46 (by kernel_rfl) fileC_len (of_decide_eq_true (by kernel_rfl)) k1 g1 (fun n hn => hw n (by
      simp only [DataW.weights, Tryz.underlying48, List.map_cons, List.map_nil, DataW.weightsEach]
      exact List.mem_append_right _ (List.mem_append_left _ hn))) (elem_file (enc0 := enc0))
    refine ⟨⟨room, fs⟩, ⟨rfl, fun j x hj => ?_⟩, hg, hl⟩
    rcases j with _ | _ | j
    · simp [diskC] at hj; subst hj; exact ⟨_, rfl, .c _ rfl⟩
    · simp [diskC] at hj; subst hj; exact ⟨_, rfl, hx⟩
    · simp [diskC] at hj
theorem open_save {v : Value} {d : DataW H} {p : List MemPlace} (hok : Value.okWide Tryz.prog W .any 0 30 v) (h : DataW.Trod enc0 Tryz.prog W 0 (fun _ => true) hd 30 v d p) (hw : ∀ n ∈ d.weights Tryz.prog 30, n ≤ reachBytes) :
    ∃ e : Save, VA (fun _ => none) (MW W) (.agg (saveC e)) v ∧ Large e.books := by
  obtain ⟨cs, rfl, hsz⟩ := okWide_struct Tryz.underlying30 hok
  have hcn : Tryz.prog.cellsOf 30 = 7 := by kernel_rfl
  rw [hcn] at hsz
  obtain ⟨l⟩ := cs
  match l, hsz with
  | [v0, v1, v2, v3, v4, v5, v6], _ =>
    obtain ⟨fuel, hf⟩ := h
    obtain ⟨xs, m, _, hx, _, hlen, hfs⟩ := DataW.trod_struct Tryz.underlying30 hf
    match xs, hlen with
    | [y0, y1], _ =>
      simp only [Prod.mk.injEq] at hx
      obtain ⟨rfl, rfl⟩ := hx
      have e0 : Tryz.prog.cellsOf 3 = 1 := by kernel_rfl
      have g0 := hfs 0 _ rfl
      simp [Value.cells, e0] at g0
      obtain ⟨a0, rfl, _⟩ := one_int Tryz.underlying3 g0
      have e1 : Tryz.prog.cellsOf 28 = 6 := by kernel_rfl
      have g1 := hfs 1 _ rfl
      simp [Value.cells, e1] at g1
      obtain ⟨a1, S1, L1⟩ := open_booksC (struct_cell (i := 1) Tryz.underlying30 (ts := [3, 22, 23, 24, 25, 26, 3]) (by kernel_rfl) hok rfl rfl rfl) (struct_cell (i := 2) Tryz.underlying30 (ts := [3, 22, 23, 24, 25, 26, 3]) (by kernel_rfl) hok rfl rfl rfl) (struct_cell (i := 3) Tryz.underlying30 (ts := [3, 22, 23, 24, 25, 26, 3]) (by kernel_rfl) hok rfl rfl rfl) (struct_cell (i := 4) Tryz.underlying30 (ts := [3, 22, 23, 24, 25, 26, 3]) (by kernel_rfl) hok rfl rfl rfl) (struct_cell (i := 5) Tryz.underlying30 (ts := [3, 22, 23, 24, 25, 26, 3]) (by kernel_rfl) hok rfl rfl rfl) g1 (fun n hn => hw n (by
        simp only [DataW.weights, Tryz.underlying30, List.map_cons, List.map_nil, DataW.weightsEach]
        exact List.mem_append_right _ (List.mem_append_left _ hn)))
      refine ⟨⟨a0, a1⟩, ⟨[.int .i64 a0, v1, v2, v3, v4, v5, v6], rfl, rfl, fun j x hj => ?_⟩, L1⟩
      rcases j with _ | _ | _ | _ | _ | _ | _ | j
      · simp [saveC] at hj; subst hj; exact ⟨_, rfl, .c _ rfl⟩
      · simp [saveC] at hj; subst hj; exact S1.2 0 _ rfl
      · simp [saveC] at hj; subst hj; exact S1.2 1 _ rfl
      · simp [saveC] at hj; subst hj; exact S1.2 2 _ rfl
      · simp [saveC] at hj; subst hj; exact S1.2 3 _ rfl
      · simp [saveC] at hj; subst hj; exact S1.2 4 _ rfl
      · simp [saveC] at hj; subst hj; exact S1.2 5 _ rfl
      · simp [saveC] at hj
theorem open_engine {v : Value} {d : DataW H} {p : List MemPlace} (hok : Value.okWide Tryz.prog W .any 0 50 v) (h : DataW.Trod enc0 Tryz.prog W 0 (fun _ => true) hd 50 v d p) (hw : ∀ n ∈ d.weights Tryz.prog 50, n ≤ reachBytes) :
    ∃ e : Eng, VA (fun _ => none) (MW W) (.agg (engC e)) v ∧ LargeE e := by
  obtain ⟨cs, rfl, hsz⟩ := okWide_struct Tryz.underlying50 hok
  have hcn : Tryz.prog.cellsOf 50 = 11 := by kernel_rfl
  rw [hcn] at hsz
  obtain ⟨l⟩ := cs
  match l, hsz with
  | [v0, v1, v2, v3, v4, v5, v6, v7, v8, v9, v10], _ =>
    obtain ⟨fuel, hf⟩ := h
    obtain ⟨xs, m, _, hx, _, hlen, hfs⟩ := DataW.trod_struct Tryz.underlying50 hf
    match xs, hlen with
    | [y0, y1, y2, y3, y4], _ =>
      simp only [Prod.mk.injEq] at hx
      obtain ⟨rfl, rfl⟩ := hx
      have e0 : Tryz.prog.cellsOf 4 = 1 := by kernel_rfl
      have g0 := hfs 0 _ rfl
      simp [Value.cells, e0] at g0
      obtain ⟨a0, ha0, _⟩ := DataW.trod_bool Tryz.underlying4 g0
      simp at ha0
      subst ha0
      have e1 : Tryz.prog.cellsOf 48 = 2 := by kernel_rfl
      have g1 := hfs 1 _ rfl
      simp [Value.cells, e1] at g1
      obtain ⟨a1, S1, Z1, N1⟩ := open_diskC (struct_cell (i := 2) Tryz.underlying50 (ts := [4, 3, 46, 22, 23, 24, 25, 26, 3, 3, 3]) (by kernel_rfl) hok rfl rfl rfl) g1 (fun n hn => hw n (by
        simp only [DataW.weights, Tryz.underlying50, List.map_cons, List.map_nil, DataW.weightsEach]
        exact List.mem_append_right _ (List.mem_append_left _ hn)))
      have e2 : Tryz.prog.cellsOf 28 = 6 := by kernel_rfl
      have g2 := hfs 2 _ rfl
      simp [Value.cells, e2] at g2
      obtain ⟨a2, S2, L2⟩ := open_booksC (struct_cell (i := 3) Tryz.underlying50 (ts := [4, 3, 46, 22, 23, 24, 25, 26, 3, 3, 3]) (by kernel_rfl) hok rfl rfl rfl) (struct_cell (i := 4) Tryz.underlying50 (ts := [4, 3, 46, 22, 23, 24, 25, 26, 3, 3, 3]) (by kernel_rfl) hok rfl rfl rfl) (struct_cell (i := 5) Tryz.underlying50 (ts := [4, 3, 46, 22, 23, 24, 25, 26, 3, 3, 3]) (by kernel_rfl) hok rfl rfl rfl) (struct_cell (i := 6) Tryz.underlying50 (ts := [4, 3, 46, 22, 23, 24, 25, 26, 3, 3, 3]) (by kernel_rfl) hok rfl rfl rfl) (struct_cell (i := 7) Tryz.underlying50 (ts := [4, 3, 46, 22, 23, 24, 25, 26, 3, 3, 3]) (by kernel_rfl) hok rfl rfl rfl) g2 (fun n hn => hw n (by
        simp only [DataW.weights, Tryz.underlying50, List.map_cons, List.map_nil, DataW.weightsEach]
        exact List.mem_append_right _ (List.mem_append_right _ (List.mem_append_left _ hn))))
      have e3 : Tryz.prog.cellsOf 3 = 1 := by kernel_rfl
      have g3 := hfs 3 _ rfl
      simp [Value.cells, e3] at g3
      obtain ⟨a3, rfl, _⟩ := one_int Tryz.underlying3 g3
      have e4 : Tryz.prog.cellsOf 3 = 1 := by kernel_rfl
      have g4 := hfs 4 _ rfl
      simp [Value.cells, e4] at g4
      obtain ⟨a4, rfl, _⟩ := one_int Tryz.underlying3 g4
      refine ⟨⟨a0, a1, a2, a3, a4⟩, ⟨[.bool a0, v1, v2, v3, v4, v5, v6, v7, v8, .int .i64 a3, .int .i64 a4], rfl, rfl, fun j x hj => ?_⟩, ⟨Z1, N1, L2⟩⟩
      rcases j with _ | _ | _ | _ | _ | _ | _ | _ | _ | _ | _ | j
      · simp [engC] at hj; subst hj; exact ⟨_, rfl, .c _ rfl⟩
      · simp [engC] at hj; subst hj; exact S1.2 0 _ rfl
      · simp [engC] at hj; subst hj; exact S1.2 1 _ rfl
      · simp [engC] at hj; subst hj; exact S2.2 0 _ rfl
      · simp [engC] at hj; subst hj; exact S2.2 1 _ rfl
      · simp [engC] at hj; subst hj; exact S2.2 2 _ rfl
      · simp [engC] at hj; subst hj; exact S2.2 3 _ rfl
      · simp [engC] at hj; subst hj; exact S2.2 4 _ rfl
      · simp [engC] at hj; subst hj; exact S2.2 5 _ rfl
      · simp [engC] at hj; subst hj; exact ⟨_, rfl, .c _ rfl⟩
      · simp [engC] at hj; subst hj; exact ⟨_, rfl, .c _ rfl⟩
      · simp [engC] at hj
end
end Go.Proofs.YtedkpjaojdkpcaaGreat
