/- Walks of functions of the program and the laws they rest on (5 of 5). Conditions: none. -/
import Derived.Deep.Strs
import Derived.Deep.Slices
import Derived.SizedLaws
import Derived.Lib.SmallJoins
import Derived.ChangeShapes
import Derived.WideShapes
import Derived.Test.YtlefjpbhbiajfaaGreatM4
section
namespace Go.Proofs.YtlefjpbhbiajfaaGreat
open Go.BL Go.RowKit
set_option linter.unusedVariables false
set_option linter.unusedSimpArgs false
set_option maxRecDepth 100000
theorem d79_0_LMove : DrawL Tryz.prog 0 38 (.on [(0, true, true), (1, true, false), (3, true, false), (2, false, false), (4, false, false), (5, false, true), (6, false, true)] .nil) := draw_L
attribute [local go_sem] fileC diskC fileC_len diskR
theorem lessF_erase : ∀ (fs : List File) (i : Nat) (hi : i < fs.length) (name : Int), SortedF fs → fs[i].name = name → fs.eraseIdx i = lessF fs name
  | g :: r, 0, _, name, hs, h => by
    simp only [List.getElem_cons_zero] at h
    have hs2 := List.pairwise_cons.1 hs
    have : lessF r name = r := List.filter_eq_self.2 fun x hx => by have := hs2.1 x hx; simp; omega
    rw [lessF, List.filter_cons_of_neg (by simp [h])]
    exact this.symm
  | g :: r, i + 1, hi, name, hs, h => by
    simp only [List.getElem_cons_succ] at h
    have hs2 := List.pairwise_cons.1 hs
    have hi' : i < r.length := by simpa using hi
    have h1 := hs2.1 r[i] (List.getElem_mem hi')
    rw [lessF, List.filter_cons_of_pos (by simp; omega), List.eraseIdx_cons_succ, lessF_erase r i hi' name hs2.2 h]
    rfl
theorem less_sorted {fs : List File} (name : Int) (h : SortedF fs) : SortedF (lessF fs name) := List.Pairwise.sublist List.filter_sublist h
theorem less_len (fs : List File) (name : Int) : (lessF fs name).length ≤ fs.length := List.length_filter_le _ _
theorem less_no (fs : List File) (name : Int) : ∀ g ∈ lessF fs name, g.name ≠ name := fun g hg => by
  have := (List.mem_filter.1 hg).2
  simpa using this
theorem less_mem {fs : List File} {name : Int} {g : File} (h : g ∈ lessF fs name) : g ∈ fs := (List.mem_filter.1 h).1
theorem putF_less (fs : List File) (x : File) : putF (lessF fs x.name) x = putF fs x := by
  simp only [putF, lessF, List.filter_filter]
  have h1 : ∀ g : File, (decide (g.name < x.name) && !(g.name == x.name)) = decide (g.name < x.name) := fun g => by
    by_cases h : g.name < x.name
    · have : ¬ g.name = x.name := by omega
      simp [h, this]
    · simp [h]
  have h2 : ∀ g : File, (decide (x.name < g.name) && !(g.name == x.name)) = decide (x.name < g.name) := fun g => by
    by_cases h : x.name < g.name
    · have : ¬ g.name = x.name := by omega
      simp [h, this]
    · simp [h]
  simp only [h1, h2]
def moveOk (d : Disk) (a b : Int) : Prop := diskOk d = true ∧ (0 ≤ a ∧ a ≤ 21) ∧ (0 ≤ b ∧ b ≤ 21) ∧ a ≠ b
instance (d : Disk) (a b : Int) : Decidable (moveOk d a b) := by unfold moveOk; exact inferInstance
def moveR (d : Disk) (a b : Int) : Disk × Int := if moveOk d a b then (match d.files.find? (fun f => f.name == a) with | some f => (⟨d.room, putF (lessF d.files a) ⟨b, f.safe, f.late⟩⟩, 0) | none => (d, 2)) else (⟨0, []⟩, 1)
theorem o_spec_DiskMove (d : Disk) (a b : Int) (hn : d.files.length ≤ 1000000000) (hz : SmallF d.files) (K : AV → AH → Prop)
    (hk : K (.tup [.agg [.c (.int .i64 ((moveR d a b).1.room)), .sl 0 0 0 (moveR d a b).1.files.length], (.one (.c (.int .i64 ((moveR d a b).2))))]) [.own 0 125 3 none ((moveR d a b).1.files.map fileC)]) : ACalls Tryz.prog 79 [.agg (diskC d), (.one (.c (.int .i64 (a)))), (.one (.c (.int .i64 (b))))] [] K := by
  refine acall_c Tryz.f79.results.toList mixed Tryz.func79 rfl rfl (by kernel_rfl) ?_
  intro Q hQ hQO
  simp only [go_sem]
  refine call_c (c_l14At d a hn _ ?_)
  by_cases hm : moveOk d a b
  · rw [moveR, if_pos hm] at hk
    have q1 : decide (0 ≤ b ∧ b ≤ 21) = true := decide_eq_true hm.2.2.1
    have q2 : (a == b) = false := by simpa using hm.2.2.2
    rcases atR_cases d a with ⟨ok, h1⟩ | ⟨ok, ⟨h1, h2⟩ | ⟨i, hi, h1, h3, h2⟩⟩
    · exact absurd ⟨hm.1, hm.2.1⟩ ok
    · rw [h2] at hk
      simp only at hk
      (try simp only [go_sem, h1, q1, q2]); repeat' (first | (with_reducible first | refine c_split ?_ ?_ | refine w_split ?_ ?_ | refine tw_split ?_ ?_) <;> intro hb <;> try simp only [go_sem, hb, h1, q1, q2] | (first | with_reducible refine d79_0_LMove (by with_unfolding_all rfl) (by kernel_rfl) ?_ | refine call_c (c_l14Name _ _ ?_) | refine call_c (o_l14Refused d 2 hn _ ?_) | fail) <;> try simp only [go_sem, h1, q1, q2] | fail)
      refine hQO [2] _ _ (GC.now ?_) <;> simp only [Tryz.f79, go_sem, List.nodup_cons, List.nodup_nil, List.mem_cons, List.not_mem_nil, or_false, not_false_eq_true, List.idxOf?_cons, List.idxOf?_nil, Option.map_none, fileC_tk]
      exact hk
    · rw [h2] at hk
      simp only [← lessF_erase d.files i hi a (disk_sorted ok.1) h3] at hk
      have hg : d.files[i]? = some d.files[i] := List.getElem?_eq_getElem hi
      have hln : (d.files.eraseIdx i).length ≤ 1000000000 := Nat.le_trans (List.length_eraseIdx_le _ _) hn
      have hso : SortedF (d.files.eraseIdx i) := List.Pairwise.sublist (List.eraseIdx_sublist _ _) (disk_sorted ok.1)
      (try simp only [go_sem, h1, q1, q2, hg, BEq.rfl]); repeat' (first | (with_reducible first | refine c_split ?_ ?_ | refine w_split ?_ ?_ | refine tw_split ?_ ?_) <;> intro hb <;> try simp only [go_sem, hb, h1, q1, q2, hg, BEq.rfl] | (first | with_reducible refine d79_0_LMove (by with_unfolding_all rfl) (by kernel_rfl) ?_ | refine call_c (c_l14Name _ _ ?_) | refine call_c (c_l14Less d i hn _ ?_) | fail) <;> try simp only [go_sem, h1, q1, q2, hg, BEq.rfl] | fail)
      refine call_c (o_l14Put ⟨d.room, d.files.eraseIdx i⟩ ⟨b, d.files[i].safe, d.files[i].late⟩ hln hso _ ?_)
      (try simp only [go_sem]); repeat' (first | (with_reducible first | refine c_split ?_ ?_ | refine w_split ?_ ?_ | refine tw_split ?_ ?_) <;> intro hb <;> try simp only [go_sem, hb] | with_reducible refine d79_0_LMove (by with_unfolding_all rfl) (by kernel_rfl) ?_ <;> try simp only [go_sem] | fail)
      refine hQO [3] _ _ (GC.now ?_) <;> simp only [Tryz.f79, go_sem, List.nodup_cons, List.nodup_nil, List.mem_cons, List.not_mem_nil, or_false, not_false_eq_true, List.idxOf?_cons, List.idxOf?_nil, Option.map_none, fileC_tk]
      exact hk
  · rw [moveR, if_neg hm] at hk
    by_cases q1 : 0 ≤ b ∧ b ≤ 21
    · have q1' := decide_eq_true q1
      by_cases q2 : a = b
      · have q2' : (a == b) = true := by simpa using q2
        rcases atR_cases d a with ⟨ok, h1⟩ | ⟨ok, ⟨h1, h2⟩ | ⟨i, hi, h1, h3, h2⟩⟩
        · (try simp only [go_sem, h1, q1', q2']); repeat' (first | (with_reducible first | refine c_split ?_ ?_ | refine w_split ?_ ?_ | refine tw_split ?_ ?_) <;> intro hb <;> try simp only [go_sem, hb, h1, q1', q2'] | (first | with_reducible refine d79_0_LMove (by with_unfolding_all rfl) (by kernel_rfl) ?_ | refine call_c (c_l14Name _ _ ?_) | refine call_c (o_l14Refused d 1 hn _ ?_) | fail) <;> try simp only [go_sem, h1, q1', q2'] | fail)
          refine hQO [2] _ _ (GC.now ?_) <;> simp only [Tryz.f79, go_sem, List.nodup_cons, List.nodup_nil, List.mem_cons, List.not_mem_nil, or_false, not_false_eq_true, List.idxOf?_cons, List.idxOf?_nil, Option.map_none, fileC_tk]
          exact hk
        · (try simp only [go_sem, h1, q1', q2']); repeat' (first | (with_reducible first | refine c_split ?_ ?_ | refine w_split ?_ ?_ | refine tw_split ?_ ?_) <;> intro hb <;> try simp only [go_sem, hb, h1, q1', q2'] | (first | with_reducible refine d79_0_LMove (by with_unfolding_all rfl) (by kernel_rfl) ?_ | refine call_c (c_l14Name _ _ ?_) | refine call_c (o_l14Refused d 1 hn _ ?_) | fail) <;> try simp only [go_sem, h1, q1', q2'] | fail)
          refine hQO [2] _ _ (GC.now ?_) <;> simp only [Tryz.f79, go_sem, List.nodup_cons, List.nodup_nil, List.mem_cons, List.not_mem_nil, or_false, not_false_eq_true, List.idxOf?_cons, List.idxOf?_nil, Option.map_none, fileC_tk]
          exact hk
        · (try simp only [go_sem, h1, q1', q2']); repeat' (first | (with_reducible first | refine c_split ?_ ?_ | refine w_split ?_ ?_ | refine tw_split ?_ ?_) <;> intro hb <;> try simp only [go_sem, hb, h1, q1', q2'] | (first | with_reducible refine d79_0_LMove (by with_unfolding_all rfl) (by kernel_rfl) ?_ | refine call_c (c_l14Name _ _ ?_) | refine call_c (o_l14Refused d 1 hn _ ?_) | fail) <;> try simp only [go_sem, h1, q1', q2'] | fail)
          refine hQO [2] _ _ (GC.now ?_) <;> simp only [Tryz.f79, go_sem, List.nodup_cons, List.nodup_nil, List.mem_cons, List.not_mem_nil, or_false, not_false_eq_true, List.idxOf?_cons, List.idxOf?_nil, Option.map_none, fileC_tk]
          exact hk
      · have q2' : (a == b) = false := by simpa using q2
        rcases atR_cases d a with ⟨ok, h1⟩ | ⟨ok, h1⟩
        · (try simp only [go_sem, h1, q1', q2']); repeat' (first | (with_reducible first | refine c_split ?_ ?_ | refine w_split ?_ ?_ | refine tw_split ?_ ?_) <;> intro hb <;> try simp only [go_sem, hb, h1, q1', q2'] | (first | with_reducible refine d79_0_LMove (by with_unfolding_all rfl) (by kernel_rfl) ?_ | refine call_c (c_l14Name _ _ ?_) | refine call_c (o_l14Refused d 1 hn _ ?_) | fail) <;> try simp only [go_sem, h1, q1', q2'] | fail)
          refine hQO [2] _ _ (GC.now ?_) <;> simp only [Tryz.f79, go_sem, List.nodup_cons, List.nodup_nil, List.mem_cons, List.not_mem_nil, or_false, not_false_eq_true, List.idxOf?_cons, List.idxOf?_nil, Option.map_none, fileC_tk]
          exact hk
        · exact absurd ⟨ok.1, ok.2, q1, q2⟩ hm
    · have q1' := decide_eq_false q1
      rcases atR_cases d a with ⟨ok, h1⟩ | ⟨ok, ⟨h1, h2⟩ | ⟨i, hi, h1, h3, h2⟩⟩
      · (try simp only [go_sem, h1, q1']); repeat' (first | (with_reducible first | refine c_split ?_ ?_ | refine w_split ?_ ?_ | refine tw_split ?_ ?_) <;> intro hb <;> try simp only [go_sem, hb, h1, q1'] | (first | with_reducible refine d79_0_LMove (by with_unfolding_all rfl) (by kernel_rfl) ?_ | refine call_c (c_l14Name _ _ ?_) | refine call_c (o_l14Refused d 1 hn _ ?_) | fail) <;> try simp only [go_sem, h1, q1'] | fail)
        refine hQO [2] _ _ (GC.now ?_) <;> simp only [Tryz.f79, go_sem, List.nodup_cons, List.nodup_nil, List.mem_cons, List.not_mem_nil, or_false, not_false_eq_true, List.idxOf?_cons, List.idxOf?_nil, Option.map_none, fileC_tk]
        exact hk
      · (try simp only [go_sem, h1, q1']); repeat' (first | (with_reducible first | refine c_split ?_ ?_ | refine w_split ?_ ?_ | refine tw_split ?_ ?_) <;> intro hb <;> try simp only [go_sem, hb, h1, q1'] | (first | with_reducible refine d79_0_LMove (by with_unfolding_all rfl) (by kernel_rfl) ?_ | refine call_c (c_l14Name _ _ ?_) | refine call_c (o_l14Refused d 1 hn _ ?_) | fail) <;> try simp only [go_sem, h1, q1'] | fail)
        refine hQO [2] _ _ (GC.now ?_) <;> simp only [Tryz.f79, go_sem, List.nodup_cons, List.nodup_nil, List.mem_cons, List.not_mem_nil, or_false, not_false_eq_true, List.idxOf?_cons, List.idxOf?_nil, Option.map_none, fileC_tk]
        exact hk
      · (try simp only [go_sem, h1, q1']); repeat' (first | (with_reducible first | refine c_split ?_ ?_ | refine w_split ?_ ?_ | refine tw_split ?_ ?_) <;> intro hb <;> try simp only [go_sem, hb, h1, q1'] | (first | with_reducible refine d79_0_LMove (by with_unfolding_all rfl) (by kernel_rfl) ?_ | refine call_c (c_l14Name _ _ ?_) | refine call_c (o_l14Refused d 1 hn _ ?_) | fail) <;> try simp only [go_sem, h1, q1'] | fail)
        refine hQO [2] _ _ (GC.now ?_) <;> simp only [Tryz.f79, go_sem, List.nodup_cons, List.nodup_nil, List.mem_cons, List.not_mem_nil, or_false, not_false_eq_true, List.idxOf?_cons, List.idxOf?_nil, Option.map_none, fileC_tk]
        exact hk
theorem c_impl_DiskMove (d : Disk) (a b : Int) (hn : d.files.length ≤ 1000000000) (hz : SmallF d.files) (K : AV → AH → Prop)
    (hk : K (.tup [.agg [.c (.int .i64 ((moveR d a b).1.room)), .sl 0 0 0 (moveR d a b).1.files.length], (.one (.c (.int .i64 ((moveR d a b).2))))]) [.own 0 125 3 none ((moveR d a b).1.files.map fileC)]) : ACalls Tryz.prog 87 [.agg (diskC d), (.one (.c (.int .i64 (a)))), (.one (.c (.int .i64 (b))))] [] K := by
  refine acall_c Tryz.f87.results.toList mixed Tryz.func87 rfl rfl (by kernel_rfl) ?_
  intro Q hQ hQO
  simp only [go_sem]
  (try simp only [go_sem]); repeat' (first | (with_reducible first | refine c_split ?_ ?_ | refine w_split ?_ ?_) <;> intro hb <;> try simp only [go_sem, hb] | (first | refine call_c (c_impl_DiskOk d hn _ ?_) | refine call_c (c_isFile _ _ ?_) | fail) <;> try simp only [go_sem] | fail)
  · rw [moveR, if_neg (fun q => by simp [q.1] at hb)] at hk
    refine hQO [2] _ _ (GC.step (Ghost.nlc (l := 1) rfl 0 1 rfl rfl 125 3) (GC.now ?_)) <;> simp only [Tryz.f87, go_sem, List.nodup_cons, List.nodup_nil, List.mem_cons, List.not_mem_nil, or_false, not_false_eq_true, List.idxOf?_cons, List.idxOf?_nil, Option.map_none]
    exact hk
  · rw [moveR, if_neg (fun q => by simp [q.2.1] at hb)] at hk
    refine hQO [2] _ _ (GC.step (Ghost.nlc (l := 1) rfl 0 1 rfl rfl 125 3) (GC.now ?_)) <;> simp only [Tryz.f87, go_sem, List.nodup_cons, List.nodup_nil, List.mem_cons, List.not_mem_nil, or_false, not_false_eq_true, List.idxOf?_cons, List.idxOf?_nil, Option.map_none]
    exact hk
  · rw [moveR, if_neg (fun q => by simp [q.2.2.1] at hb)] at hk
    refine hQO [2] _ _ (GC.step (Ghost.nlc (l := 1) rfl 0 1 rfl rfl 125 3) (GC.now ?_)) <;> simp only [Tryz.f87, go_sem, List.nodup_cons, List.nodup_nil, List.mem_cons, List.not_mem_nil, or_false, not_false_eq_true, List.idxOf?_cons, List.idxOf?_nil, Option.map_none]
    exact hk
  · rw [moveR, if_neg (fun q => q.2.2.2 (by simpa using hb))] at hk
    refine hQO [2] _ _ (GC.step (Ghost.nlc (l := 1) rfl 0 1 rfl rfl 125 3) (GC.now ?_)) <;> simp only [Tryz.f87, go_sem, List.nodup_cons, List.nodup_nil, List.mem_cons, List.not_mem_nil, or_false, not_false_eq_true, List.idxOf?_cons, List.idxOf?_nil, Option.map_none]
    exact hk
  rename_i b1 b2 b3
  have hm : moveOk d a b := ⟨by simpa using b1, by simpa using b2, by simpa using b3, by simpa using hb⟩
  rw [moveR, if_pos hm] at hk
  (try simp only [go_sem]); repeat' (first | (with_reducible first | refine c_split ?_ ?_ | refine w_split ?_ ?_) <;> intro hb <;> try simp only [go_sem, hb] | refine call_c (c_cloneDisk d hn _ (fun cap => ?_)) <;> try simp only [go_sem] | fail)
  refine call_c (c_fileAt d a hn _ ?_)
  rcases findG_find (fun f => f.name == a) d.files with ⟨h1, h2⟩ | ⟨i, hi, h1, h3, h2⟩
  · rw [h2] at hk
    simp only at hk
    (try simp only [go_sem, h1, Int.reduceLT, Int.reduceNeg]); repeat' (first | (with_reducible first | refine c_split ?_ ?_ | refine w_split ?_ ?_) <;> intro hb <;> try simp only [go_sem, hb, h1, Int.reduceLT, Int.reduceNeg] | fail)
    refine hQO [2] _ _ (GC.step (Ghost.cut (l := 2) rfl d.files.length) (GC.now ?_)) <;> simp only [Tryz.f87, go_sem, List.nodup_cons, List.nodup_nil, List.mem_cons, List.not_mem_nil, or_false, not_false_eq_true, List.idxOf?_cons, List.idxOf?_nil, Option.map_none, fileC_tk]
    exact hk
  · rw [h2] at hk
    simp only at hk
    have hlt : ((i : Int) < 0) = False := by simp
    have hil : (i : Int) < (d.files.length : Int) := Int.ofNat_lt.2 hi
    have hg : d.files[i]? = some d.files[i] := List.getElem?_eq_getElem hi
    have hl1 := less_len d.files a
    have hl2 := less_len (lessF d.files a) b
    (try simp only [go_sem, h1, hlt, hil, hg]); repeat' (first | (with_reducible first | refine c_split ?_ ?_ | refine w_split ?_ ?_) <;> intro hb <;> try simp only [go_sem, hb, h1, hlt, hil, hg] | fail)
    refine call_h (c_drop d.room d.files a 3 2 0 cap _ rfl rfl hn _ ?_)
    (try simp only [go_sem]); repeat' (first | (with_reducible first | refine c_split ?_ ?_ | refine w_split ?_ ?_) <;> intro hb <;> try simp only [go_sem, hb] | fail)
    refine call_h (c_drop d.room (lessF d.files a) b 3 2 0 none _ rfl rfl (by omega) _ ?_)
    (try simp only [go_sem]); repeat' (first | (with_reducible first | refine c_split ?_ ?_ | refine w_split ?_ ?_) <;> intro hb <;> try simp only [go_sem, hb] | fail)
    refine call_h (c_put d.room (lessF (lessF d.files a) b) ⟨b, d.files[i].safe, d.files[i].late⟩ 3 2 0 none _ rfl rfl (by omega) _ (fun g' => ?_))
    (try simp only [go_sem]); repeat' (first | (with_reducible first | refine c_split ?_ ?_ | refine w_split ?_ ?_) <;> intro hb <;> try simp only [go_sem, hb] | fail)
    refine hQO [2] _ _ (GC.now ?_) <;> simp only [Tryz.f87, go_sem, List.nodup_cons, List.nodup_nil, List.mem_cons, List.not_mem_nil, or_false, not_false_eq_true, List.idxOf?_cons, List.idxOf?_nil, Option.map_none, fileC_tk]
    have hs2 := less_sorted b (less_sorted a (disk_sorted hm.1))
    have e := putF_absent ⟨b, d.files[i].safe, d.files[i].late⟩ (lessF (lessF d.files a) b) hs2 (fun g hg => less_no _ _ g hg)
    rw [putF_less (lessF d.files a) ⟨b, d.files[i].safe, d.files[i].late⟩] at e
    rw [← e, insAt_len _ _ _ (putPos_le _ _)] at hk
    exact hk
end Go.Proofs.YtlefjpbhbiajfaaGreat
end
section
namespace Go.Proofs.YtlefjpbhbiajfaaGreat
open Go.BL Go.RowKit
set_option linter.unusedVariables false
set_option linter.unusedSimpArgs false
set_option maxRecDepth 100000
attribute [local go_sem] accountC balC lotC tradeC booksC booksA saveC byteC fileC diskC fileC_len diskR
theorem ckB_len (n : Nat) : (ckBytes n).length = 4 := rfl
theorem saveT_size (s : Save) : (saveT s).size ≤ 1000000 := by
  unfold saveT
  split
  · rename_i h
    unfold saveGood at h
    rw [Bool.and_eq_true, Bool.and_eq_true] at h
    obtain ⟨⟨h1, h2⟩, h3⟩ := h
    have h4 := save_len h1 h2
    have h5 : ¬ 9000 < (saveBody s).length := by simpa using h3
    have h6 := putNum_le (saveBody s).length (by omega)
    show (sealS (saveBody s)).1.toArray.size ≤ 1000000
    unfold sealS
    rw [if_neg h5]
    simp only [List.size_toArray, List.length_append, ckB_len]
    omega
  · exact Nat.zero_le _
def stepR (d : Disk) (s : Save) (k : Int) : Disk × Int :=
  if saveGood s = true ∧ diskOk d = true ∧ 0 ≤ k ∧ k ≤ 3 then
    if k = 0 then (if (appR ⟨d.room, lessF d.files 20⟩ 20 (saveT s)).2 = 0 then appR ⟨d.room, lessF d.files 20⟩ 20 (saveT s) else (d, (appR ⟨d.room, lessF d.files 20⟩ 20 (saveT s)).2))
    else if k = 1 then syncR d 20 else if k = 2 then moveR d 20 21 else (clearDisk d [], 0)
  else (⟨0, []⟩, 1)
theorem less_len2 (fs : List File) (n : Int) (h : fs.length ≤ 1000000000) : (lessF fs n).length ≤ 1000000000 := Nat.le_trans (List.length_filter_le _ _) h
theorem less_small {fs : List File} (h : SmallF fs) (n : Int) : SmallF (lessF fs n) := fun f hf => h f (List.mem_filter.1 hf).1
theorem step_cases {k : Int} (h : 0 ≤ k ∧ k ≤ 3) : k = 0 ∨ k = 1 ∨ k = 2 ∨ k = 3 := by omega
theorem c_impl_SaveStep (d : Disk) (s : Save) (k : Int) (hn : d.files.length ≤ 1000000000) (hz : SmallF d.files) (hs : Small s.books) (K : AV → AH → Prop)
    (hk : K (.tup [.agg [.c (.int .i64 ((stepR d s k).1.room)), .sl 0 0 0 (stepR d s k).1.files.length], (.one (.c (.int .i64 ((stepR d s k).2))))]) [.own 0 125 3 none ((stepR d s k).1.files.map fileC)]) : ACalls Tryz.prog 32 [.agg (diskC d), .agg (saveC s), (.one (.c (.int .i64 (k))))] [] K := by
  have hsz := saveT_size s
  have cP := fun K' hk' => c_impl_SavePack s hs K' hk'
  have cD := fun K' hk' => c_impl_DiskOk d hn K' hk'
  generalize hT : saveT s = T at cP hsz
  refine acall_c Tryz.f32.results.toList mixed Tryz.func32 rfl rfl (by kernel_rfl) ?_
  intro Q hQ hQO
  simp only [go_sem]
  by_cases hc : saveGood s = true ∧ diskOk d = true ∧ 0 ≤ k ∧ k ≤ 3
  · obtain ⟨h1, h2, h3⟩ := hc
    rw [stepR, if_pos ⟨h1, h2, h3⟩, hT] at hk
    rw [h1] at cP
    rw [h2] at cD
    have d3 : decide (0 ≤ k ∧ k ≤ 3) = true := decide_eq_true h3
    rcases step_cases h3 with rfl | rfl | rfl | rfl
    · rw [if_pos rfl] at hk
      (try simp only [go_sem, d3, BEq.rfl]); repeat' (first | (with_reducible first | refine c_split ?_ ?_ | refine w_split ?_ ?_) <;> intro hb <;> try simp only [go_sem, hb, d3, BEq.rfl] | (first | refine call_c (cP _ ?_) | refine call_c (cD _ ?_) | refine call_c (c_in _ _ _ _ ?_) | refine call_c (c_cloneDisk d hn _ (fun cap => ?_)) | fail) <;> try simp only [go_sem, d3, BEq.rfl] | fail)
      refine call_h (c_drop d.room d.files 20 4 3 0 cap _ rfl rfl hn _ ?_)
      (try simp only [go_sem, fileC_tk]); repeat' (first | (with_reducible first | refine c_split ?_ ?_ | refine w_split ?_ ?_) <;> intro hb <;> try simp only [go_sem, hb, fileC_tk] | fail)
      refine call_c (c_impl_DiskAppend ⟨d.room, lessF d.files 20⟩ 20 T (less_len2 _ _ hn) (less_small hz _) (Nat.le_trans hsz (by decide)) _ ?_)
      generalize appR ⟨d.room, lessF d.files 20⟩ 20 T = R at hk ⊢
      by_cases hR : R.2 = 0
      · have e : (R.2 == 0) = true := by rw [hR]; rfl
        rw [if_pos hR] at hk
        (try simp only [go_sem, e]); repeat' (first | (with_reducible first | refine c_split ?_ ?_ | refine w_split ?_ ?_) <;> intro hb <;> try simp only [go_sem, hb, e] | fail)
        refine hQO [5] _ _ (GC.now ?_) <;> simp only [Tryz.f32, go_sem, List.nodup_cons, List.nodup_nil, List.mem_cons, List.not_mem_nil, or_false, not_false_eq_true, List.idxOf?_cons, List.idxOf?_nil, Option.map_none, fileC_tk]
        rw [hR] at hk
        exact hk
      · have e : (R.2 == 0) = false := beq_eq_false_iff_ne.2 hR
        rw [if_neg hR] at hk
        (try simp only [go_sem, e]); repeat' (first | (with_reducible first | refine c_split ?_ ?_ | refine w_split ?_ ?_) <;> intro hb <;> try simp only [go_sem, hb, e] | refine call_c (c_cloneDisk d hn _ (fun cap => ?_)) <;> try simp only [go_sem, e] | fail)
        refine hQO [7] _ _ (GC.step (Ghost.cut (l := 7) rfl d.files.length) (GC.now ?_)) <;> simp only [Tryz.f32, go_sem, List.nodup_cons, List.nodup_nil, List.mem_cons, List.not_mem_nil, or_false, not_false_eq_true, List.idxOf?_cons, List.idxOf?_nil, Option.map_none, fileC_tk]
        exact hk
    · have e0 : ((1 : Int) == 0) = false := rfl
      rw [if_neg (by decide), if_pos rfl] at hk
      (try simp only [go_sem, d3, e0, BEq.rfl]); repeat' (first | (with_reducible first | refine c_split ?_ ?_ | refine w_split ?_ ?_) <;> intro hb <;> try simp only [go_sem, hb, d3, e0, BEq.rfl] | (first | refine call_c (cP _ ?_) | refine call_c (cD _ ?_) | refine call_c (c_in _ _ _ _ ?_) | refine call_c (c_impl_DiskSync d 20 hn hz _ ?_) | fail) <;> try simp only [go_sem, d3, e0, BEq.rfl] | fail)
      refine hQO [3] _ _ (GC.now ?_) <;> simp only [Tryz.f32, go_sem, List.nodup_cons, List.nodup_nil, List.mem_cons, List.not_mem_nil, or_false, not_false_eq_true, List.idxOf?_cons, List.idxOf?_nil, Option.map_none, fileC_tk]
      exact hk
    · have e0 : ((2 : Int) == 0) = false := rfl
      have e1 : ((2 : Int) == 1) = false := rfl
      rw [if_neg (by decide), if_neg (by decide), if_pos rfl] at hk
      (try simp only [go_sem, d3, e0, e1, BEq.rfl]); repeat' (first | (with_reducible first | refine c_split ?_ ?_ | refine w_split ?_ ?_) <;> intro hb <;> try simp only [go_sem, hb, d3, e0, e1, BEq.rfl] | (first | refine call_c (cP _ ?_) | refine call_c (cD _ ?_) | refine call_c (c_in _ _ _ _ ?_) | refine call_c (c_impl_DiskMove d 20 21 hn hz _ ?_) | fail) <;> try simp only [go_sem, d3, e0, e1, BEq.rfl] | fail)
      refine hQO [3] _ _ (GC.now ?_) <;> simp only [Tryz.f32, go_sem, List.nodup_cons, List.nodup_nil, List.mem_cons, List.not_mem_nil, or_false, not_false_eq_true, List.idxOf?_cons, List.idxOf?_nil, Option.map_none, fileC_tk]
      exact hk
    · have e0 : ((3 : Int) == 0) = false := rfl
      have e1 : ((3 : Int) == 1) = false := rfl
      have e2 : ((3 : Int) == 2) = false := rfl
      rw [if_neg (by decide), if_neg (by decide), if_neg (by decide)] at hk
      (try simp only [go_sem, d3, e0, e1, e2, BEq.rfl]); repeat' (first | (with_reducible first | refine c_split ?_ ?_ | refine w_split ?_ ?_) <;> intro hb <;> try simp only [go_sem, hb, d3, e0, e1, e2, BEq.rfl] | (first | refine call_c (cP _ ?_) | refine call_c (cD _ ?_) | refine call_c (c_in _ _ _ _ ?_) | refine call_c (c_impl_SegsClear d [] hn (Nat.zero_le _) _ ?_) | fail) <;> try simp only [go_sem, d3, e0, e1, e2, BEq.rfl] | fail)
      refine hQO [3] _ _ (GC.now ?_) <;> simp only [Tryz.f32, go_sem, List.nodup_cons, List.nodup_nil, List.mem_cons, List.not_mem_nil, or_false, not_false_eq_true, List.idxOf?_cons, List.idxOf?_nil, Option.map_none, fileC_tk]
      exact hk
  · rw [stepR, if_neg hc] at hk
    cases h2 : diskOk d with
    | false =>
      rw [h2] at cD
      (try simp only [go_sem]); repeat' (first | (with_reducible first | refine c_split ?_ ?_ | refine w_split ?_ ?_) <;> intro hb <;> try simp only [go_sem, hb] | (first | refine call_c (cP _ ?_) | refine call_c (cD _ ?_) | refine call_c (c_in _ _ _ _ ?_) | fail) <;> try simp only [go_sem] | fail)
      refine hQO [3] _ _ (GC.step (Ghost.nlc (l := 2) rfl 0 1 rfl rfl 125 3) (GC.now ?_)) <;> simp only [Tryz.f32, go_sem, List.nodup_cons, List.nodup_nil, List.mem_cons, List.not_mem_nil, or_false, not_false_eq_true, List.idxOf?_cons, List.idxOf?_nil, Option.map_none]
      exact hk
    | true =>
      rw [h2] at cD
      by_cases h3 : 0 ≤ k ∧ k ≤ 3
      · have d3 : decide (0 ≤ k ∧ k ≤ 3) = true := decide_eq_true h3
        have h1 : saveGood s = false := by
          cases h1 : saveGood s with
          | false => rfl
          | true => exact absurd ⟨h1, h2, h3⟩ hc
        rw [h1] at cP
        (try simp only [go_sem, d3]); repeat' (first | (with_reducible first | refine c_split ?_ ?_ | refine w_split ?_ ?_) <;> intro hb <;> try simp only [go_sem, hb, d3] | (first | refine call_c (cP _ ?_) | refine call_c (cD _ ?_) | refine call_c (c_in _ _ _ _ ?_) | fail) <;> try simp only [go_sem, d3] | fail)
        refine hQO [3] _ _ (GC.step (Ghost.nlc (l := 2) rfl 0 1 rfl rfl 125 3) (GC.now ?_)) <;> simp only [Tryz.f32, go_sem, List.nodup_cons, List.nodup_nil, List.mem_cons, List.not_mem_nil, or_false, not_false_eq_true, List.idxOf?_cons, List.idxOf?_nil, Option.map_none]
        exact hk
      · have d3 : decide (0 ≤ k ∧ k ≤ 3) = false := decide_eq_false h3
        (try simp only [go_sem, d3]); repeat' (first | (with_reducible first | refine c_split ?_ ?_ | refine w_split ?_ ?_) <;> intro hb <;> try simp only [go_sem, hb, d3] | (first | refine call_c (cP _ ?_) | refine call_c (cD _ ?_) | refine call_c (c_in _ _ _ _ ?_) | fail) <;> try simp only [go_sem, d3] | fail)
        refine hQO [3] _ _ (GC.step (Ghost.nlc (l := 2) rfl 0 1 rfl rfl 125 3) (GC.now ?_)) <;> simp only [Tryz.f32, go_sem, List.nodup_cons, List.nodup_nil, List.mem_cons, List.not_mem_nil, or_false, not_false_eq_true, List.idxOf?_cons, List.idxOf?_nil, Option.map_none]
        exact hk
theorem less_none {fs : List File} {name : Int} (h : findG (fun f => f.name == name) fs = -1) : lessF fs name = fs := by
  unfold lessF
  rw [List.filter_eq_self]
  intro f hf
  rcases findG_find (fun f => f.name == name) fs with ⟨_, h2⟩ | ⟨i, hi, h1, _, _⟩
  · have := List.find?_eq_none.1 h2 f hf
    simpa using this
  · rw [h] at h1; omega
theorem step0_find (d : Disk) (ok : diskOk d = true) : (findG (fun f => f.name == 20) d.files = -1 ∧ lessF d.files 20 = d.files) ∨ ∃ i : Nat, findG (fun f => f.name == 20) d.files = (i : Int) ∧ d.files.eraseIdx i = lessF d.files 20 := by
  rcases findG_find (fun f : File => f.name == 20) d.files with ⟨h1, _⟩ | ⟨i, hi, h1, h3, _⟩
  · exact .inl ⟨h1, less_none h1⟩
  · exact .inr ⟨i, h1, lessF_erase d.files i hi 20 (disk_sorted ok) (by simpa using h3)⟩
theorem c_spec_SaveStep (d : Disk) (s : Save) (k : Int) (hn : d.files.length ≤ 1000000000) (hz : SmallF d.files) (hs : Small s.books) (K : AV → AH → Prop)
    (hk : K (diskR (stepR d s k)) []) : ACalls Tryz.prog 30 [.agg (diskC d), .agg (saveC s), (.one (.c (.int .i64 (k))))] [] K := by
  have hsz := saveT_size s
  have cP := fun K' hk' => c_spec_SavePack s hs K' hk'
  have cD := fun K' hk' => c_spec_DiskOk d hn K' hk'
  generalize hT : saveT s = T at cP hsz
  refine acall_c Tryz.f30.results.toList mixed Tryz.func30 rfl rfl (by kernel_rfl) ?_
  intro Q hQ hQO
  simp only [go_sem]
  by_cases hc : saveGood s = true ∧ diskOk d = true ∧ 0 ≤ k ∧ k ≤ 3
  · obtain ⟨h1, h2, h3⟩ := hc
    rw [stepR, if_pos ⟨h1, h2, h3⟩, hT] at hk
    rw [h1] at cP
    rw [h2] at cD
    have d3 : decide (0 ≤ k ∧ k ≤ 3) = true := decide_eq_true h3
    rcases step_cases h3 with rfl | rfl | rfl | rfl
    · rw [if_pos rfl] at hk
      have cA := fun K' hk' => c_spec_DiskAppend ⟨d.room, lessF d.files 20⟩ 20 T (less_len2 _ _ hn) (less_small hz _) (Nat.le_trans hsz (by decide)) K' hk'
      generalize appR ⟨d.room, lessF d.files 20⟩ 20 T = R at hk cA
      obtain ⟨⟨room, fs⟩, code⟩ := R
      have e0 : decide ((0 : Int) ≤ -1) = false := rfl
      rcases step0_find d h2 with ⟨f1, f2⟩ | ⟨i, f1, f2⟩
      · rw [f2] at cA
        cases e : (code == 0) with
        | true =>
          have e' : code = 0 := eq_of_beq e
          rw [if_pos e'] at hk
          subst e'
          (try simp only [go_sem, d3, BEq.rfl, f1, e0]); repeat' (first | (with_reducible first | refine c_split ?_ ?_ | refine w_split ?_ ?_) <;> intro hb <;> try simp only [go_sem, hb, d3, BEq.rfl, f1, e0] | (first | refine call_c (cP _ ?_) | refine call_c (cD _ ?_) | refine call_c (c_l1In _ _ _ _ ?_) | refine call_c (c_l14Find d 20 hn _ ?_) | refine call_c (cA _ ?_) | fail) <;> try simp only [go_sem, d3, BEq.rfl, f1, e0] | with_reducible refine hQ _ _ ?_ <;> simp only [Tryz.f30, go_sem, d3, BEq.rfl, f1, e0])
          exact hk
        | false =>
          rw [if_neg (by simpa using e)] at hk
          (try simp only [go_sem, d3, BEq.rfl, f1, e0, e]); repeat' (first | (with_reducible first | refine c_split ?_ ?_ | refine w_split ?_ ?_) <;> intro hb <;> try simp only [go_sem, hb, d3, BEq.rfl, f1, e0, e] | (first | refine call_c (cP _ ?_) | refine call_c (cD _ ?_) | refine call_c (c_l1In _ _ _ _ ?_) | refine call_c (c_l14Find d 20 hn _ ?_) | refine call_c (cA _ ?_) | refine call_c (c_l14Copy d hn _ ?_) | fail) <;> try simp only [go_sem, d3, BEq.rfl, f1, e0, e] | with_reducible refine hQ _ _ ?_ <;> simp only [Tryz.f30, go_sem, d3, BEq.rfl, f1, e0, e])
          exact hk
      · cases e : (code == 0) with
        | true =>
          have e' : code = 0 := eq_of_beq e
          rw [if_pos e'] at hk
          subst e'
          (try simp only [go_sem, d3, BEq.rfl, f1, f2]); repeat' (first | (with_reducible first | refine c_split ?_ ?_ | refine w_split ?_ ?_) <;> intro hb <;> try simp only [go_sem, hb, d3, BEq.rfl, f1, f2] | (first | refine call_c (cP _ ?_) | refine call_c (cD _ ?_) | refine call_c (c_l1In _ _ _ _ ?_) | refine call_c (c_l14Find d 20 hn _ ?_) | refine call_c (c_l14Less d i hn _ ?_) | refine call_c (cA _ ?_) | fail) <;> try simp only [go_sem, d3, BEq.rfl, f1, f2] | with_reducible refine hQ _ _ ?_ <;> simp only [Tryz.f30, go_sem, d3, BEq.rfl, f1, f2])
          exact hk
        | false =>
          rw [if_neg (by simpa using e)] at hk
          (try simp only [go_sem, d3, BEq.rfl, f1, f2, e]); repeat' (first | (with_reducible first | refine c_split ?_ ?_ | refine w_split ?_ ?_) <;> intro hb <;> try simp only [go_sem, hb, d3, BEq.rfl, f1, f2, e] | (first | refine call_c (cP _ ?_) | refine call_c (cD _ ?_) | refine call_c (c_l1In _ _ _ _ ?_) | refine call_c (c_l14Find d 20 hn _ ?_) | refine call_c (c_l14Less d i hn _ ?_) | refine call_c (cA _ ?_) | refine call_c (c_l14Copy d hn _ ?_) | fail) <;> try simp only [go_sem, d3, BEq.rfl, f1, f2, e] | with_reducible refine hQ _ _ ?_ <;> simp only [Tryz.f30, go_sem, d3, BEq.rfl, f1, f2, e])
          exact hk
    · have e0 : ((1 : Int) == 0) = false := rfl
      rw [if_neg (by decide), if_pos rfl] at hk
      (try simp only [go_sem, d3, e0, BEq.rfl]); repeat' (first | (with_reducible first | refine c_split ?_ ?_ | refine w_split ?_ ?_) <;> intro hb <;> try simp only [go_sem, hb, d3, e0, BEq.rfl] | (first | refine call_c (cP _ ?_) | refine call_c (cD _ ?_) | refine call_c (c_l1In _ _ _ _ ?_) | refine call_c (c_spec_DiskSync d 20 hn hz _ ?_) | fail) <;> try simp only [go_sem, d3, e0, BEq.rfl] | with_reducible refine hQ _ _ ?_ <;> simp only [Tryz.f30, go_sem, d3, e0, BEq.rfl])
      exact hk
    · have e0 : ((2 : Int) == 0) = false := rfl
      have e1 : ((2 : Int) == 1) = false := rfl
      rw [if_neg (by decide), if_neg (by decide), if_pos rfl] at hk
      (try simp only [go_sem, d3, e0, e1, BEq.rfl, fileC_tk]); repeat' (first | (with_reducible first | refine c_split ?_ ?_ | refine w_split ?_ ?_) <;> intro hb <;> try simp only [go_sem, hb, d3, e0, e1, BEq.rfl, fileC_tk] | (first | refine call_c (cP _ ?_) | refine call_c (cD _ ?_) | refine call_c (c_l1In _ _ _ _ ?_) | refine call_c (o_spec_DiskMove d 20 21 hn hz _ ?_) | fail) <;> try simp only [go_sem, d3, e0, e1, BEq.rfl, fileC_tk] | with_reducible refine hQ _ _ ?_ <;> simp only [Tryz.f30, go_sem, d3, e0, e1, BEq.rfl, fileC_tk])
      exact hk
    · have e0 : ((3 : Int) == 0) = false := rfl
      have e1 : ((3 : Int) == 1) = false := rfl
      have e2 : ((3 : Int) == 2) = false := rfl
      rw [if_neg (by decide), if_neg (by decide), if_neg (by decide)] at hk
      (try simp only [go_sem, d3, e0, e1, e2, BEq.rfl]); repeat' (first | (with_reducible first | refine c_split ?_ ?_ | refine w_split ?_ ?_) <;> intro hb <;> try simp only [go_sem, hb, d3, e0, e1, e2, BEq.rfl] | (first | refine call_c (cP _ ?_) | refine call_c (cD _ ?_) | refine call_c (c_l1In _ _ _ _ ?_) | refine call_c (c_spec_SegsClear d [] hn (Nat.zero_le _) _ ?_) | fail) <;> try simp only [go_sem, d3, e0, e1, e2, BEq.rfl] | with_reducible refine hQ _ _ ?_ <;> simp only [Tryz.f30, go_sem, d3, e0, e1, e2, BEq.rfl])
      exact hk
  · rw [stepR, if_neg hc] at hk
    cases h2 : diskOk d with
    | false =>
      rw [h2] at cD
      (try simp only [go_sem]); repeat' (first | (with_reducible first | refine c_split ?_ ?_ | refine w_split ?_ ?_) <;> intro hb <;> try simp only [go_sem, hb] | (first | refine call_c (cP _ ?_) | refine call_c (cD _ ?_) | refine call_c (c_l1In _ _ _ _ ?_) | fail) <;> try simp only [go_sem] | with_reducible refine hQ _ _ ?_ <;> simp only [Tryz.f30, go_sem])
      exact hk
    | true =>
      rw [h2] at cD
      cases h1 : saveGood s with
      | false =>
        rw [h1] at cP
        (try simp only [go_sem]); repeat' (first | (with_reducible first | refine c_split ?_ ?_ | refine w_split ?_ ?_) <;> intro hb <;> try simp only [go_sem, hb] | (first | refine call_c (cP _ ?_) | refine call_c (cD _ ?_) | refine call_c (c_l1In _ _ _ _ ?_) | fail) <;> try simp only [go_sem] | with_reducible refine hQ _ _ ?_ <;> simp only [Tryz.f30, go_sem])
        exact hk
      | true =>
        rw [h1] at cP
        have d3 : decide (0 ≤ k ∧ k ≤ 3) = false := decide_eq_false fun q => hc ⟨h1, h2, q⟩
        (try simp only [go_sem, d3]); repeat' (first | (with_reducible first | refine c_split ?_ ?_ | refine w_split ?_ ?_) <;> intro hb <;> try simp only [go_sem, hb, d3] | (first | refine call_c (cP _ ?_) | refine call_c (cD _ ?_) | refine call_c (c_l1In _ _ _ _ ?_) | fail) <;> try simp only [go_sem, d3] | with_reducible refine hQ _ _ ?_ <;> simp only [Tryz.f30, go_sem, d3])
        exact hk
end Go.Proofs.YtlefjpbhbiajfaaGreat
end
section
namespace Go.Proofs.YtlefjpbhbiajfaaGreat
open Go.BL Go.RowKit
set_option linter.unusedVariables false
set_option linter.unusedSimpArgs false
set_option maxRecDepth 100000
def sizeF (f : File) : Nat := f.safe.size + f.late.size
def total (fs : List File) : Nat := (fs.map sizeF).sum
theorem total_cons (f : File) (fs : List File) : total (f :: fs) = sizeF f + total fs := rfl
theorem total_app (xs ys : List File) : total (xs ++ ys) = total xs + total ys := by simp [total]
theorem room_take (fs : List File) : ∀ i, i ≤ fs.length → roomTo fs i = (total (fs.take i) : Int)
  | 0, _ => by simp [roomTo, total]
  | i + 1, hi => by
    rw [roomTo_succ fs i (by omega), room_take fs i (by omega), List.take_succ_eq_append_getElem (by omega), total_app]
    simp [total, sizeF]
theorem room_total (fs : List File) : roomTo fs fs.length = (total fs : Int) := by rw [room_take fs _ (Nat.le_refl _), List.take_length]
theorem size_total {fs : List File} {f : File} (h : f ∈ fs) : sizeF f ≤ total fs := by
  induction fs with
  | nil => cases h
  | cons g r ih =>
    rw [total_cons]
    rcases List.mem_cons.1 h with rfl | h
    · omega
    · have := ih h; omega
def Good (d : Disk) : Prop := (∀ f ∈ d.files, 0 ≤ f.name ∧ f.name ≤ 21) ∧ SortedF d.files ∧ 0 ≤ d.room ∧ d.room ≤ 60000 ∧ (total d.files : Int) ≤ d.room
theorem rows_of {fs : List File} (h1 : ∀ f ∈ fs, 0 ≤ f.name ∧ f.name ≤ 21) (h2 : SortedF fs) : ∀ n, n ≤ fs.length → rowsTo fs n = true
  | 0, _ => rfl
  | n + 1, hn => by
    rw [rowsTo, rows_of h1 h2 n (by omega), Bool.true_and]
    cases n with
    | zero => rw [rowOk_0 fs (by omega)]; exact decide_eq_true (h1 _ (List.getElem_mem _))
    | succ j =>
      rw [rowOk_s fs j (by omega), Bool.and_eq_true]
      exact ⟨decide_eq_true (h1 _ (List.getElem_mem _)), decide_eq_true ((List.pairwise_iff_getElem.1 h2) j (j + 1) (by omega) (by omega) (by omega))⟩
theorem good_ok {d : Disk} (h : Good d) : diskOk d = true := by
  obtain ⟨h1, h2, h3, h4, h5⟩ := h
  have hw : wrap64 (roomTo d.files d.files.length) = (total d.files : Int) := by rw [room_total]; unfold wrap64; omega
  simp only [diskOk, Bool.and_eq_true, rows_of h1 h2 _ (Nat.le_refl _), hw, true_and]
  exact ⟨decide_eq_true ⟨h3, h4⟩, decide_eq_true h5⟩
theorem good_of {d : Disk} (hz : SmallF d.files) (h : diskOk d = true) : Good d := by
  obtain ⟨h1, h2, h3, h4⟩ := disk_room hz h
  rw [room_total] at h2
  refine ⟨fun f hf => ?_, disk_sorted h, h3, h4, h2⟩
  obtain ⟨i, hi, e⟩ := List.mem_iff_getElem.1 hf
  have hr := rows_to (disk_rows h) hi
  subst e
  cases i with
  | zero => rw [rowOk_0 _ hi] at hr; exact of_decide_eq_true hr
  | succ j => rw [rowOk_s _ j hi, Bool.and_eq_true] at hr; exact of_decide_eq_true hr.1
theorem good_size {d : Disk} (h : Good d) : ∀ f ∈ d.files, f.safe.size ≤ 60000 ∧ f.late.size ≤ 60000 := fun f hf => by
  have h1 := size_total hf
  have h2 := h.2.2.2.2
  have h3 := h.2.2.2.1
  rw [sizeF] at h1
  omega
theorem good_small {d : Disk} (h : Good d) : SmallF d.files := fun f hf => by have := good_size h f hf; omega
theorem good_len {d : Disk} (h : Good d) : d.files.length ≤ 22 := disk_len (good_ok h)
theorem good_empty (room : Int) (h1 : 0 ≤ room) (h2 : room ≤ 60000) : Good ⟨room, []⟩ := ⟨fun f hf => (List.not_mem_nil hf).elim, List.Pairwise.nil, h1, h2, by simpa [total] using h1⟩
theorem less_total_le (fs : List File) (name : Int) : total (lessF fs name) ≤ total fs := by
  induction fs with
  | nil => exact Nat.le_refl _
  | cons g r ih =>
    rw [lessF, List.filter_cons]
    split
    · rw [total_cons, total_cons]; have : total (r.filter fun f => !(f.name == name)) ≤ total r := ih; omega
    · rw [total_cons]; have : total (r.filter fun f => !(f.name == name)) ≤ total r := ih; omega
theorem less_total {fs : List File} {name : Int} {f : File} (h : fs.find? (fun g => g.name == name) = some f) : total (lessF fs name) + sizeF f ≤ total fs := by
  induction fs with
  | nil => cases h
  | cons g r ih =>
    rw [List.find?_cons] at h
    rw [lessF, List.filter_cons, total_cons]
    cases hg : g.name == name with
    | true =>
      rw [hg] at h
      cases h
      simp only [Bool.not_true, Bool.false_eq_true, if_false]
      have := less_total_le r name
      rw [lessF] at this; omega
    | false =>
      rw [hg] at h
      simp only [Bool.not_false, if_true, total_cons]
      have := ih h
      rw [lessF] at this; omega
theorem total_put (fs : List File) (f : File) : total (putF fs f) = total (lessF fs f.name) + sizeF f := by
  have key : total (fs.filter fun g => decide (g.name < f.name)) + total (fs.filter fun g => decide (f.name < g.name)) = total (lessF fs f.name) := by
    induction fs with
    | nil => rfl
    | cons g r ih =>
      rw [lessF] at ih ⊢
      simp only [List.filter_cons]
      rcases Int.lt_trichotomy g.name f.name with h | h | h
      · have h1 : ¬ f.name < g.name := by omega
        have h2 : (g.name == f.name) = false := by simp; omega
        simp only [h, h1, h2, decide_true, decide_false, Bool.not_false, if_true, Bool.false_eq_true, if_false, total_cons]; omega
      · have h1 : ¬ f.name < g.name := by omega
        have h3 : ¬ g.name < f.name := by omega
        have h2 : (g.name == f.name) = true := by simp; omega
        simp only [h3, h1, h2, decide_false, Bool.not_true, Bool.false_eq_true, if_false]; omega
      · have h1 : ¬ g.name < f.name := by omega
        have h2 : (g.name == f.name) = false := by simp; omega
        simp only [h, h1, h2, decide_true, decide_false, Bool.not_false, if_true, Bool.false_eq_true, if_false, total_cons]; omega
  rw [putF, total_app, total_cons, ← key]; omega
theorem sorted_put {fs : List File} (f : File) (h : SortedF fs) : SortedF (putF fs f) := by
  rw [SortedF, putF, List.pairwise_append]
  refine ⟨List.Pairwise.sublist List.filter_sublist h, List.pairwise_cons.2 ⟨fun g hg => of_decide_eq_true (List.mem_filter.1 hg).2, List.Pairwise.sublist List.filter_sublist h⟩, fun a ha b hb => ?_⟩
  have h1 := of_decide_eq_true (List.mem_filter.1 ha).2
  rcases List.mem_cons.1 hb with rfl | hb
  · exact h1
  · have h2 := of_decide_eq_true (List.mem_filter.1 hb).2
    omega
theorem putF_mem2 {fs : List File} {f g : File} (h : g ∈ putF fs f) : g = f ∨ g ∈ fs := by
  simp only [putF, List.mem_append, List.mem_cons, List.mem_filter] at h
  rcases h with h | h | h
  · exact .inr h.1
  · exact .inl h
  · exact .inr h.1
theorem good_put {d : Disk} (h : Good d) {f : File} (hf : 0 ≤ f.name ∧ f.name ≤ 21) (hs : ((total (lessF d.files f.name) + sizeF f : Nat) : Int) ≤ d.room) : Good ⟨d.room, putF d.files f⟩ := by
  obtain ⟨h1, h2, h3, h4, h5⟩ := h
  refine ⟨fun g hg => ?_, sorted_put f h2, h3, h4, by rw [total_put]; exact hs⟩
  rcases putF_mem2 hg with rfl | hg
  · exact hf
  · exact h1 g hg
theorem good_less {d : Disk} (h : Good d) (name : Int) : Good ⟨d.room, lessF d.files name⟩ := by
  obtain ⟨h1, h2, h3, h4, h5⟩ := h
  have := less_total_le d.files name
  exact ⟨fun g hg => h1 g (less_mem hg), less_sorted name h2, h3, h4, by show ((total (lessF d.files name) : Nat) : Int) ≤ d.room; omega⟩
theorem add_facts (fs : List File) (name : Int) (s : ByteArray) : (addF fs name s).name = name ∧ total (lessF fs name) + sizeF (addF fs name s) ≤ total fs + s.size := by
  unfold addF
  split
  · rename_i f hf
    have hn : f.name = name := by simpa using List.find?_some hf
    have := less_total hf
    refine ⟨hn, ?_⟩
    simp only [sizeF, ByteArray.size_append] at this ⊢
    omega
  · have := less_total_le fs name
    refine ⟨rfl, ?_⟩
    have h0 : (⟨#[]⟩ : ByteArray).size = 0 := rfl
    simp only [sizeF, ByteArray.size_append, h0]
    omega
theorem good_app {d : Disk} (h : Good d) (name : Int) (s : ByteArray) (hc : (appR d name s).2 ≠ 1) : Good (appR d name s).1 := by
  unfold appR at hc ⊢
  split at hc
  · rename_i ok
    rw [if_pos ok]
    split
    · exact h
    · rename_i hr
      rw [room_total] at hr
      obtain ⟨h1, h2⟩ := add_facts d.files name s
      refine good_put h (by rw [h1]; exact ok.2) ?_
      rw [h1]; omega
  · exact absurd rfl hc
theorem good_sync {d : Disk} (h : Good d) (name : Int) (hc : (syncR d name).2 ≠ 1) : Good (syncR d name).1 := by
  unfold syncR at hc ⊢
  split at hc
  · rename_i ok
    rw [if_pos ok]
    cases hf : d.files.find? (fun f => f.name == name) with
    | none => exact h
    | some f =>
      have := less_total hf
      have h5 := h.2.2.2.2
      have h0 : (⟨#[]⟩ : ByteArray).size = 0 := rfl
      refine good_put h ok.2 ?_
      simp only [sizeF, ByteArray.size_append, h0] at this ⊢
      omega
  · exact absurd rfl hc
theorem less_twice (fs : List File) (a b : Int) : total (lessF (lessF fs a) b) ≤ total (lessF fs a) := less_total_le _ _
theorem good_move {d : Disk} (h : Good d) (a b : Int) (hc : (moveR d a b).2 ≠ 1) : Good (moveR d a b).1 := by
  unfold moveR at hc ⊢
  split at hc
  · rename_i ok
    rw [if_pos ok]
    cases hf : d.files.find? (fun f => f.name == a) with
    | none => exact h
    | some f =>
      have h1 := less_total hf
      have h2 := less_twice d.files a b
      have h5 := h.2.2.2.2
      refine good_put (good_less h a) (f := ⟨b, f.safe, f.late⟩) ok.2.2.1 ?_
      simp only [sizeF] at h1 ⊢
      omega
  · exact absurd rfl hc
end Go.Proofs.YtlefjpbhbiajfaaGreat
end
section
namespace Go.Proofs.YtlefjpbhbiajfaaGreat
open Go.BL Go.RowKit
set_option linter.unusedVariables false
set_option linter.unusedSimpArgs false
set_option maxRecDepth 100000
attribute [local go_sem] accountC balC lotC tradeC booksC booksA saveC byteC fileC diskC fileC_len diskR
theorem total_filter (p : File → Bool) : ∀ fs : List File, total (fs.filter p) ≤ total fs
  | [] => Nat.le_refl _
  | f :: r => by
    have := total_filter p r
    rw [List.filter_cons, total_cons]
    split
    · rw [total_cons]; omega
    · omega
theorem good_filter {d : Disk} (h : Good d) (p : File → Bool) : Good ⟨d.room, d.files.filter p⟩ := by
  obtain ⟨h1, h2, h3, h4, h5⟩ := h
  have := total_filter p d.files
  exact ⟨fun f hf => h1 f (List.mem_filter.1 hf).1, List.Pairwise.filter _ h2, h3, h4, by show ((total (d.files.filter p) : Nat) : Int) ≤ d.room; omega⟩
theorem good_clear0 {d : Disk} (h : Good d) : Good (clearDisk d []) := by
  have hok := good_ok h
  unfold clearDisk
  first | (rw [if_pos ⟨hok, Nat.zero_le _⟩]; exact good_filter h _) | (rw [if_pos (by simp [hok])]; exact good_filter h _) | (split <;> first | exact good_filter h _ | exact good_empty 0 (by decide) (by decide))
theorem step_good {d : Disk} {s : Save} {k : Int} (hz : SmallF d.files) (h : (stepR d s k).2 = 0) : Good (stepR d s k).1 := by
  unfold stepR at h ⊢
  split at h
  · rename_i hc
    rw [if_pos hc]
    have hg := good_of hz hc.2.1
    split at h
    · rename_i h0
      rw [if_pos h0]
      split at h
      · rename_i h1
        rw [if_pos h1]
        exact good_app (good_less hg 20) 20 _ (by rw [h1]; decide)
      · rename_i h1; exact absurd h h1
    · rename_i h0
      rw [if_neg h0]
      split at h
      · rename_i h1; rw [if_pos h1]; exact good_sync hg 20 (by rw [h]; decide)
      · rename_i h1
        rw [if_neg h1]
        split at h
        · rename_i h2; rw [if_pos h2]; exact good_move hg 20 21 (by rw [h]; decide)
        · rename_i h2; rw [if_neg h2]; exact good_clear0 hg
  · cases h
end Go.Proofs.YtlefjpbhbiajfaaGreat
end
section
namespace Go.Proofs.YtlefjpbhbiajfaaGreat
open Go.BL Go.RowKit
set_option linter.unusedVariables false
set_option linter.unusedSimpArgs false
set_option maxRecDepth 100000
theorem d103_0_LEngineOk : DrawL Tryz.prog 0 16 (.on [(0, true, true), (1, true, true), (2, true, true), (3, true, true), (4, true, false), (5, false, false), (6, false, false), (7, false, false), (8, false, true)] .nil) := draw_L
theorem d104_0_LEngineOk : DrawL Tryz.prog 0 16 (.on [(0, true, true), (1, true, true), (2, true, true), (3, true, true), (4, true, false), (5, false, false), (6, false, false), (7, false, false), (8, false, true)] .nil) := draw_L
theorem d105_0_LEngineOk : DrawL Tryz.prog 0 16 (.on [(0, true, true), (1, true, true), (2, true, true), (3, true, true), (4, true, false), (5, false, false), (6, false, false), (7, false, false), (8, false, true)] .nil) := draw_L
theorem d106_0_LEngineOk : DrawL Tryz.prog 0 16 (.on [(0, true, true), (1, true, true), (2, true, true), (3, true, true), (4, true, false), (5, false, false), (6, false, false), (7, false, false), (8, false, true)] .nil) := draw_L
theorem d107_0_LEngineOk : DrawL Tryz.prog 0 16 (.on [(0, true, true), (1, true, true), (2, true, true), (3, true, true), (4, true, false), (5, false, false), (6, false, false), (7, false, false), (8, false, true)] .nil) := draw_L
theorem d108_0_LEngineOk : DrawL Tryz.prog 0 67 (.on [(0, true, true), (1, true, true), (2, true, false), (3, true, true), (4, true, false), (5, true, false), (6, true, false), (7, false, false), (8, false, false), (9, false, false), (10, false, false)] .nil) := draw_L
theorem d108_1_LEngineOk : DrawL Tryz.prog 0 85 (.on [(0, true, true), (1, true, true), (2, true, false), (3, true, true), (4, true, false), (5, true, false), (6, true, false), (7, false, false), (8, false, false), (9, false, false), (10, false, false)] .nil) := draw_L
theorem d108_2_LEngineOk : DrawL Tryz.prog 0 103 (.on [(0, true, true), (1, true, true), (2, true, false), (3, true, true), (4, true, false), (5, true, false), (6, true, false), (7, false, false), (8, false, false), (9, false, false), (10, false, false)] .nil) := draw_L
theorem d108_3_LEngineOk : DrawL Tryz.prog 0 121 (.on [(0, true, true), (1, true, true), (2, true, false), (3, true, true), (4, true, false), (5, true, false), (6, true, false), (7, false, false), (8, false, false), (9, false, false), (10, false, false)] .nil) := draw_L
theorem d108_4_LEngineOk : DrawL Tryz.prog 0 139 (.on [(0, true, true), (1, true, true), (2, true, false), (3, true, true), (4, true, false), (5, true, false), (6, true, false), (7, false, false), (8, false, false), (9, false, false), (10, false, false)] .nil) := draw_L
attribute [local go_sem] accountC balC lotC tradeC booksC booksA fileC diskC engC
theorem cast0 : ((0 : Nat) : Int) = 0 := rfl
theorem c_EqualAccount0 (xs : List Account) (K : AV → AH → Prop) (hn : xs.length ≤ 1000000000) (hk : K (.one (.c (.bool ((xs.length : Int) == 0)))) []) : ACalls Tryz.prog 103 [(.one (.im (xs.map accountC))), (.one (.im ([])))] [] K := by
  refine acall_c Tryz.f103.results.toList mixed Tryz.func103 rfl rfl (by kernel_rfl) ?_
  intro Q hQ hQO
  simp only [go_sem]
  cases hz : ((xs.length : Int) == 0) with
  | false =>
    rw [hz] at hk
    (try simp only [go_sem, cast0, hz]); repeat' (first | (with_reducible first | refine c_split ?_ ?_ | refine w_split ?_ ?_ | refine tw_split ?_ ?_) <;> intro hb <;> try simp only [go_sem, hb, cast0, hz] | with_reducible refine d103_0_LEngineOk (by with_unfolding_all rfl) (by kernel_rfl) ?_ <;> try simp only [go_sem, cast0, hz] | with_reducible refine hQ _ _ ?_ <;> simp only [Tryz.f103, go_sem, cast0, hz])
    exact hk
  | true =>
    have h0 : xs = [] := List.length_eq_zero_iff.1 (Int.ofNat_inj.1 (eq_of_beq hz))
    rw [hz] at hk
    subst h0
    (try simp only [go_sem]); repeat' (first | (with_reducible first | refine c_split ?_ ?_ | refine w_split ?_ ?_ | refine tw_split ?_ ?_) <;> intro hb <;> try simp only [go_sem, hb] | with_reducible refine d103_0_LEngineOk (by with_unfolding_all rfl) (by kernel_rfl) ?_ <;> try simp only [go_sem] | fail)
    refine for_at (0) [0, 1, 12] (fun i f h => f 13 = (.one (.c (.int .i64 (i)))) ∧ f 12 = (.one (.c (.int .i64 (((0 : Nat) : Int))))) ∧ h = []) (GC.now ?_) ?_
    · simp only [go_sem, nc_0, true_and]
    · rintro i f h J hi hA ⟨e13, e12, rfl⟩ hJ
      simp only [go_sem] at hA
      simp only [go_sem, hA, e13, e12]
      refine c_split (fun hb => ?_) (fun hb => ?_)
      rotate_left
      · simp only [go_sem, hb, hA, e13, e12]
        obtain rfl := ge_len hb hi
        (try simp only [go_sem, hA, e13, e12]); repeat' (first | (with_reducible first | refine c_split ?_ ?_ | refine w_split ?_ ?_ | refine tw_split ?_ ?_) <;> intro hb <;> try simp only [go_sem, hb, hA, e13, e12] | with_reducible refine d103_0_LEngineOk (by with_unfolding_all rfl) (by kernel_rfl) ?_ <;> try simp only [go_sem, hA, e13, e12] | with_reducible refine hQ _ _ ?_ <;> simp only [Tryz.f103, go_sem, hA, e13, e12])
        exact hk
      have := of_decide_eq_true hb
      omega
theorem c_EqualInstr0 (xs : List Account) (K : AV → AH → Prop) (hn : xs.length ≤ 1000000000) (hk : K (.one (.c (.bool ((xs.length : Int) == 0)))) []) : ACalls Tryz.prog 104 [(.one (.im (xs.map accountC))), (.one (.im ([])))] [] K := by
  refine acall_c Tryz.f104.results.toList mixed Tryz.func104 rfl rfl (by kernel_rfl) ?_
  intro Q hQ hQO
  simp only [go_sem]
  cases hz : ((xs.length : Int) == 0) with
  | false =>
    rw [hz] at hk
    (try simp only [go_sem, cast0, hz]); repeat' (first | (with_reducible first | refine c_split ?_ ?_ | refine w_split ?_ ?_ | refine tw_split ?_ ?_) <;> intro hb <;> try simp only [go_sem, hb, cast0, hz] | with_reducible refine d104_0_LEngineOk (by with_unfolding_all rfl) (by kernel_rfl) ?_ <;> try simp only [go_sem, cast0, hz] | with_reducible refine hQ _ _ ?_ <;> simp only [Tryz.f104, go_sem, cast0, hz])
    exact hk
  | true =>
    have h0 : xs = [] := List.length_eq_zero_iff.1 (Int.ofNat_inj.1 (eq_of_beq hz))
    rw [hz] at hk
    subst h0
    (try simp only [go_sem]); repeat' (first | (with_reducible first | refine c_split ?_ ?_ | refine w_split ?_ ?_ | refine tw_split ?_ ?_) <;> intro hb <;> try simp only [go_sem, hb] | with_reducible refine d104_0_LEngineOk (by with_unfolding_all rfl) (by kernel_rfl) ?_ <;> try simp only [go_sem] | fail)
    refine for_at (0) [0, 1, 12] (fun i f h => f 13 = (.one (.c (.int .i64 (i)))) ∧ f 12 = (.one (.c (.int .i64 (((0 : Nat) : Int))))) ∧ h = []) (GC.now ?_) ?_
    · simp only [go_sem, nc_0, true_and]
    · rintro i f h J hi hA ⟨e13, e12, rfl⟩ hJ
      simp only [go_sem] at hA
      simp only [go_sem, hA, e13, e12]
      refine c_split (fun hb => ?_) (fun hb => ?_)
      rotate_left
      · simp only [go_sem, hb, hA, e13, e12]
        obtain rfl := ge_len hb hi
        (try simp only [go_sem, hA, e13, e12]); repeat' (first | (with_reducible first | refine c_split ?_ ?_ | refine w_split ?_ ?_ | refine tw_split ?_ ?_) <;> intro hb <;> try simp only [go_sem, hb, hA, e13, e12] | with_reducible refine d104_0_LEngineOk (by with_unfolding_all rfl) (by kernel_rfl) ?_ <;> try simp only [go_sem, hA, e13, e12] | with_reducible refine hQ _ _ ?_ <;> simp only [Tryz.f104, go_sem, hA, e13, e12])
        exact hk
      have := of_decide_eq_true hb
      omega
theorem c_EqualBal0 (xs : List Bal) (K : AV → AH → Prop) (hn : xs.length ≤ 1000000000) (hk : K (.one (.c (.bool ((xs.length : Int) == 0)))) []) : ACalls Tryz.prog 105 [(.one (.im (xs.map balC))), (.one (.im ([])))] [] K := by
  refine acall_c Tryz.f105.results.toList mixed Tryz.func105 rfl rfl (by kernel_rfl) ?_
  intro Q hQ hQO
  simp only [go_sem]
  cases hz : ((xs.length : Int) == 0) with
  | false =>
    rw [hz] at hk
    (try simp only [go_sem, cast0, hz]); repeat' (first | (with_reducible first | refine c_split ?_ ?_ | refine w_split ?_ ?_ | refine tw_split ?_ ?_) <;> intro hb <;> try simp only [go_sem, hb, cast0, hz] | with_reducible refine d105_0_LEngineOk (by with_unfolding_all rfl) (by kernel_rfl) ?_ <;> try simp only [go_sem, cast0, hz] | with_reducible refine hQ _ _ ?_ <;> simp only [Tryz.f105, go_sem, cast0, hz])
    exact hk
  | true =>
    have h0 : xs = [] := List.length_eq_zero_iff.1 (Int.ofNat_inj.1 (eq_of_beq hz))
    rw [hz] at hk
    subst h0
    (try simp only [go_sem]); repeat' (first | (with_reducible first | refine c_split ?_ ?_ | refine w_split ?_ ?_ | refine tw_split ?_ ?_) <;> intro hb <;> try simp only [go_sem, hb] | with_reducible refine d105_0_LEngineOk (by with_unfolding_all rfl) (by kernel_rfl) ?_ <;> try simp only [go_sem] | fail)
    refine for_at (0) [0, 1, 12] (fun i f h => f 13 = (.one (.c (.int .i64 (i)))) ∧ f 12 = (.one (.c (.int .i64 (((0 : Nat) : Int))))) ∧ h = []) (GC.now ?_) ?_
    · simp only [go_sem, nc_0, true_and]
    · rintro i f h J hi hA ⟨e13, e12, rfl⟩ hJ
      simp only [go_sem] at hA
      simp only [go_sem, hA, e13, e12]
      refine c_split (fun hb => ?_) (fun hb => ?_)
      rotate_left
      · simp only [go_sem, hb, hA, e13, e12]
        obtain rfl := ge_len hb hi
        (try simp only [go_sem, hA, e13, e12]); repeat' (first | (with_reducible first | refine c_split ?_ ?_ | refine w_split ?_ ?_ | refine tw_split ?_ ?_) <;> intro hb <;> try simp only [go_sem, hb, hA, e13, e12] | with_reducible refine d105_0_LEngineOk (by with_unfolding_all rfl) (by kernel_rfl) ?_ <;> try simp only [go_sem, hA, e13, e12] | with_reducible refine hQ _ _ ?_ <;> simp only [Tryz.f105, go_sem, hA, e13, e12])
        exact hk
      have := of_decide_eq_true hb
      omega
theorem c_EqualLot0 (xs : List Lot) (K : AV → AH → Prop) (hn : xs.length ≤ 1000000000) (hk : K (.one (.c (.bool ((xs.length : Int) == 0)))) []) : ACalls Tryz.prog 106 [(.one (.im (xs.map lotC))), (.one (.im ([])))] [] K := by
  refine acall_c Tryz.f106.results.toList mixed Tryz.func106 rfl rfl (by kernel_rfl) ?_
  intro Q hQ hQO
  simp only [go_sem]
  cases hz : ((xs.length : Int) == 0) with
  | false =>
    rw [hz] at hk
    (try simp only [go_sem, cast0, hz]); repeat' (first | (with_reducible first | refine c_split ?_ ?_ | refine w_split ?_ ?_ | refine tw_split ?_ ?_) <;> intro hb <;> try simp only [go_sem, hb, cast0, hz] | with_reducible refine d106_0_LEngineOk (by with_unfolding_all rfl) (by kernel_rfl) ?_ <;> try simp only [go_sem, cast0, hz] | with_reducible refine hQ _ _ ?_ <;> simp only [Tryz.f106, go_sem, cast0, hz])
    exact hk
  | true =>
    have h0 : xs = [] := List.length_eq_zero_iff.1 (Int.ofNat_inj.1 (eq_of_beq hz))
    rw [hz] at hk
    subst h0
    (try simp only [go_sem]); repeat' (first | (with_reducible first | refine c_split ?_ ?_ | refine w_split ?_ ?_ | refine tw_split ?_ ?_) <;> intro hb <;> try simp only [go_sem, hb] | with_reducible refine d106_0_LEngineOk (by with_unfolding_all rfl) (by kernel_rfl) ?_ <;> try simp only [go_sem] | fail)
    refine for_at (0) [0, 1, 12] (fun i f h => f 13 = (.one (.c (.int .i64 (i)))) ∧ f 12 = (.one (.c (.int .i64 (((0 : Nat) : Int))))) ∧ h = []) (GC.now ?_) ?_
    · simp only [go_sem, nc_0, true_and]
    · rintro i f h J hi hA ⟨e13, e12, rfl⟩ hJ
      simp only [go_sem] at hA
      simp only [go_sem, hA, e13, e12]
      refine c_split (fun hb => ?_) (fun hb => ?_)
      rotate_left
      · simp only [go_sem, hb, hA, e13, e12]
        obtain rfl := ge_len hb hi
        (try simp only [go_sem, hA, e13, e12]); repeat' (first | (with_reducible first | refine c_split ?_ ?_ | refine w_split ?_ ?_ | refine tw_split ?_ ?_) <;> intro hb <;> try simp only [go_sem, hb, hA, e13, e12] | with_reducible refine d106_0_LEngineOk (by with_unfolding_all rfl) (by kernel_rfl) ?_ <;> try simp only [go_sem, hA, e13, e12] | with_reducible refine hQ _ _ ?_ <;> simp only [Tryz.f106, go_sem, hA, e13, e12])
        exact hk
      have := of_decide_eq_true hb
      omega
theorem c_EqualTrade0 (xs : List Trade) (K : AV → AH → Prop) (hn : xs.length ≤ 1000000000) (hk : K (.one (.c (.bool ((xs.length : Int) == 0)))) []) : ACalls Tryz.prog 107 [(.one (.im (xs.map tradeC))), (.one (.im ([])))] [] K := by
  refine acall_c Tryz.f107.results.toList mixed Tryz.func107 rfl rfl (by kernel_rfl) ?_
  intro Q hQ hQO
  simp only [go_sem]
  cases hz : ((xs.length : Int) == 0) with
  | false =>
    rw [hz] at hk
    (try simp only [go_sem, cast0, hz]); repeat' (first | (with_reducible first | refine c_split ?_ ?_ | refine w_split ?_ ?_ | refine tw_split ?_ ?_) <;> intro hb <;> try simp only [go_sem, hb, cast0, hz] | with_reducible refine d107_0_LEngineOk (by with_unfolding_all rfl) (by kernel_rfl) ?_ <;> try simp only [go_sem, cast0, hz] | with_reducible refine hQ _ _ ?_ <;> simp only [Tryz.f107, go_sem, cast0, hz])
    exact hk
  | true =>
    have h0 : xs = [] := List.length_eq_zero_iff.1 (Int.ofNat_inj.1 (eq_of_beq hz))
    rw [hz] at hk
    subst h0
    (try simp only [go_sem]); repeat' (first | (with_reducible first | refine c_split ?_ ?_ | refine w_split ?_ ?_ | refine tw_split ?_ ?_) <;> intro hb <;> try simp only [go_sem, hb] | with_reducible refine d107_0_LEngineOk (by with_unfolding_all rfl) (by kernel_rfl) ?_ <;> try simp only [go_sem] | fail)
    refine for_at (0) [0, 1, 12] (fun i f h => f 13 = (.one (.c (.int .i64 (i)))) ∧ f 12 = (.one (.c (.int .i64 (((0 : Nat) : Int))))) ∧ h = []) (GC.now ?_) ?_
    · simp only [go_sem, nc_0, true_and]
    · rintro i f h J hi hA ⟨e13, e12, rfl⟩ hJ
      simp only [go_sem] at hA
      simp only [go_sem, hA, e13, e12]
      refine c_split (fun hb => ?_) (fun hb => ?_)
      rotate_left
      · simp only [go_sem, hb, hA, e13, e12]
        obtain rfl := ge_len hb hi
        (try simp only [go_sem, hA, e13, e12]); repeat' (first | (with_reducible first | refine c_split ?_ ?_ | refine w_split ?_ ?_ | refine tw_split ?_ ?_) <;> intro hb <;> try simp only [go_sem, hb, hA, e13, e12] | with_reducible refine d107_0_LEngineOk (by with_unfolding_all rfl) (by kernel_rfl) ?_ <;> try simp only [go_sem, hA, e13, e12] | with_reducible refine hQ _ _ ?_ <;> simp only [Tryz.f107, go_sem, hA, e13, e12])
        exact hk
      have := of_decide_eq_true hb
      omega
def bareB (b : Books) : Bool := ((b.accounts.length : Int) == 0) && ((b.instrs.length : Int) == 0) && ((b.bals.length : Int) == 0) && ((b.lots.length : Int) == 0) && ((b.trades.length : Int) == 0) && (b.lot == 0)
theorem c_impl_BooksSame0 (b : Books) (hs : Small b) (K : AV → AH → Prop) (hk : K (.one (.c (.bool (bareB b)))) []) : ACalls Tryz.prog 45 [.agg (booksC b), .agg [.im ([]), .im ([]), .im ([]), .im ([]), .im ([]), .c (.int .i64 (0))]] [] K := by
  refine acall_c Tryz.f45.results.toList mixed Tryz.func45 rfl rfl (by kernel_rfl) ?_
  intro Q hQ hQO
  simp only [go_sem]
  (try simp only [go_sem]); repeat' (first | (with_reducible first | refine c_split ?_ ?_ | refine w_split ?_ ?_) <;> intro hb <;> try simp only [go_sem, hb] | (first | refine call_c (c_EqualAccount0 _ _ hs.ha ?_) | refine call_c (c_EqualInstr0 _ _ hs.hi ?_) | refine call_c (c_EqualBal0 _ _ hs.hb ?_) | refine call_c (c_EqualLot0 _ _ hs.hl ?_) | refine call_c (c_EqualTrade0 _ _ hs.ht ?_) | fail) <;> try simp only [go_sem] | with_reducible refine hQ _ _ ?_ <;> simp only [Tryz.f45, go_sem])
  all_goals exact kB hk (by simp only [bareB]; simp_all)
theorem bare_eq {b : Books} (h : bareB b = true) : b = ⟨[], [], [], [], [], 0⟩ := by
  obtain ⟨a, i, l, o, t, n⟩ := b
  simp only [bareB, Bool.and_eq_true, beq_iff_eq] at h
  obtain ⟨⟨⟨⟨⟨h1, h2⟩, h3⟩, h4⟩, h5⟩, h6⟩ := h
  simp only [Books.mk.injEq]
  exact ⟨List.length_eq_zero_iff.1 (Int.ofNat_inj.1 h1), List.length_eq_zero_iff.1 (Int.ofNat_inj.1 h2), List.length_eq_zero_iff.1 (Int.ofNat_inj.1 h3), List.length_eq_zero_iff.1 (Int.ofNat_inj.1 h4), List.length_eq_zero_iff.1 (Int.ofNat_inj.1 h5), h6⟩
theorem c_spec_BooksSame0 (b : Books) (hs : Small b) (K : AV → AH → Prop) (hk : K (.one (.c (.bool (bareB b)))) []) : ACalls Tryz.prog 108 [.agg (booksC b), .agg [.im ([]), .im ([]), .im ([]), .im ([]), .im ([]), .c (.int .i64 (0))]] [] K := by
  cases hz : bareB b with
  | false =>
    rw [hz] at hk
    refine acall_c Tryz.f108.results.toList mixed Tryz.func108 rfl rfl (by kernel_rfl) ?_
    intro Q hQ hQO
    simp only [go_sem]
    simp only [bareB] at hz
    cases c0 : ((b.accounts.length : Int) == 0) with
    | false =>
      (try simp only [go_sem, cast0, c0]); repeat' (first | (with_reducible first | refine c_split ?_ ?_ | refine w_split ?_ ?_ | refine tw_split ?_ ?_) <;> intro hb <;> try simp only [go_sem, hb, cast0, c0] | (first | with_reducible refine d108_0_LEngineOk (by with_unfolding_all rfl) (by kernel_rfl) ?_ | with_reducible refine d108_1_LEngineOk (by with_unfolding_all rfl) (by kernel_rfl) ?_ | with_reducible refine d108_2_LEngineOk (by with_unfolding_all rfl) (by kernel_rfl) ?_ | with_reducible refine d108_3_LEngineOk (by with_unfolding_all rfl) (by kernel_rfl) ?_ | with_reducible refine d108_4_LEngineOk (by with_unfolding_all rfl) (by kernel_rfl) ?_ | fail) <;> try simp only [go_sem, cast0, c0] | with_reducible refine hQ _ _ ?_ <;> simp only [Tryz.f108, go_sem, cast0, c0])
      exact hk
    | true =>
      cases c1 : ((b.instrs.length : Int) == 0) with
      | false =>
        (try simp only [go_sem, cast0, c0, c1]); repeat' (first | (with_reducible first | refine c_split ?_ ?_ | refine w_split ?_ ?_ | refine tw_split ?_ ?_) <;> intro hb <;> try simp only [go_sem, hb, cast0, c0, c1] | (first | with_reducible refine d108_0_LEngineOk (by with_unfolding_all rfl) (by kernel_rfl) ?_ | with_reducible refine d108_1_LEngineOk (by with_unfolding_all rfl) (by kernel_rfl) ?_ | with_reducible refine d108_2_LEngineOk (by with_unfolding_all rfl) (by kernel_rfl) ?_ | with_reducible refine d108_3_LEngineOk (by with_unfolding_all rfl) (by kernel_rfl) ?_ | with_reducible refine d108_4_LEngineOk (by with_unfolding_all rfl) (by kernel_rfl) ?_ | fail) <;> try simp only [go_sem, cast0, c0, c1] | with_reducible refine hQ _ _ ?_ <;> simp only [Tryz.f108, go_sem, cast0, c0, c1])
        exact hk
      | true =>
        cases c2 : ((b.bals.length : Int) == 0) with
        | false =>
          (try simp only [go_sem, cast0, c0, c1, c2]); repeat' (first | (with_reducible first | refine c_split ?_ ?_ | refine w_split ?_ ?_ | refine tw_split ?_ ?_) <;> intro hb <;> try simp only [go_sem, hb, cast0, c0, c1, c2] | (first | with_reducible refine d108_0_LEngineOk (by with_unfolding_all rfl) (by kernel_rfl) ?_ | with_reducible refine d108_1_LEngineOk (by with_unfolding_all rfl) (by kernel_rfl) ?_ | with_reducible refine d108_2_LEngineOk (by with_unfolding_all rfl) (by kernel_rfl) ?_ | with_reducible refine d108_3_LEngineOk (by with_unfolding_all rfl) (by kernel_rfl) ?_ | with_reducible refine d108_4_LEngineOk (by with_unfolding_all rfl) (by kernel_rfl) ?_ | fail) <;> try simp only [go_sem, cast0, c0, c1, c2] | with_reducible refine hQ _ _ ?_ <;> simp only [Tryz.f108, go_sem, cast0, c0, c1, c2])
          exact hk
        | true =>
          cases c3 : ((b.lots.length : Int) == 0) with
          | false =>
            (try simp only [go_sem, cast0, c0, c1, c2, c3]); repeat' (first | (with_reducible first | refine c_split ?_ ?_ | refine w_split ?_ ?_ | refine tw_split ?_ ?_) <;> intro hb <;> try simp only [go_sem, hb, cast0, c0, c1, c2, c3] | (first | with_reducible refine d108_0_LEngineOk (by with_unfolding_all rfl) (by kernel_rfl) ?_ | with_reducible refine d108_1_LEngineOk (by with_unfolding_all rfl) (by kernel_rfl) ?_ | with_reducible refine d108_2_LEngineOk (by with_unfolding_all rfl) (by kernel_rfl) ?_ | with_reducible refine d108_3_LEngineOk (by with_unfolding_all rfl) (by kernel_rfl) ?_ | with_reducible refine d108_4_LEngineOk (by with_unfolding_all rfl) (by kernel_rfl) ?_ | fail) <;> try simp only [go_sem, cast0, c0, c1, c2, c3] | with_reducible refine hQ _ _ ?_ <;> simp only [Tryz.f108, go_sem, cast0, c0, c1, c2, c3])
            exact hk
          | true =>
            cases c4 : ((b.trades.length : Int) == 0) with
            | false =>
              (try simp only [go_sem, cast0, c0, c1, c2, c3, c4]); repeat' (first | (with_reducible first | refine c_split ?_ ?_ | refine w_split ?_ ?_ | refine tw_split ?_ ?_) <;> intro hb <;> try simp only [go_sem, hb, cast0, c0, c1, c2, c3, c4] | (first | with_reducible refine d108_0_LEngineOk (by with_unfolding_all rfl) (by kernel_rfl) ?_ | with_reducible refine d108_1_LEngineOk (by with_unfolding_all rfl) (by kernel_rfl) ?_ | with_reducible refine d108_2_LEngineOk (by with_unfolding_all rfl) (by kernel_rfl) ?_ | with_reducible refine d108_3_LEngineOk (by with_unfolding_all rfl) (by kernel_rfl) ?_ | with_reducible refine d108_4_LEngineOk (by with_unfolding_all rfl) (by kernel_rfl) ?_ | fail) <;> try simp only [go_sem, cast0, c0, c1, c2, c3, c4] | with_reducible refine hQ _ _ ?_ <;> simp only [Tryz.f108, go_sem, cast0, c0, c1, c2, c3, c4])
              exact hk
            | true =>
              cases c5 : (b.lot == 0) with
              | false =>
                (try simp only [go_sem, cast0, c0, c1, c2, c3, c4, c5]); repeat' (first | (with_reducible first | refine c_split ?_ ?_ | refine w_split ?_ ?_ | refine tw_split ?_ ?_) <;> intro hb <;> try simp only [go_sem, hb, cast0, c0, c1, c2, c3, c4, c5] | (first | with_reducible refine d108_0_LEngineOk (by with_unfolding_all rfl) (by kernel_rfl) ?_ | with_reducible refine d108_1_LEngineOk (by with_unfolding_all rfl) (by kernel_rfl) ?_ | with_reducible refine d108_2_LEngineOk (by with_unfolding_all rfl) (by kernel_rfl) ?_ | with_reducible refine d108_3_LEngineOk (by with_unfolding_all rfl) (by kernel_rfl) ?_ | with_reducible refine d108_4_LEngineOk (by with_unfolding_all rfl) (by kernel_rfl) ?_ | fail) <;> try simp only [go_sem, cast0, c0, c1, c2, c3, c4, c5] | with_reducible refine hQ _ _ ?_ <;> simp only [Tryz.f108, go_sem, cast0, c0, c1, c2, c3, c4, c5])
                exact hk
              | true =>
                rw [c0, c1, c2, c3, c4, c5] at hz
                cases hz
  | true =>
    rw [hz] at hk
    have hb0 := bare_eq hz
    subst hb0
    refine acall_c Tryz.f108.results.toList mixed Tryz.func108 rfl rfl (by kernel_rfl) ?_
    intro Q hQ hQO
    simp only [go_sem]
    (try simp only [go_sem, BEq.rfl]); repeat' (first | (with_reducible first | refine c_split ?_ ?_ | refine w_split ?_ ?_ | refine tw_split ?_ ?_) <;> intro hb <;> try simp only [go_sem, hb, BEq.rfl] | (first | with_reducible refine d108_0_LEngineOk (by with_unfolding_all rfl) (by kernel_rfl) ?_ | with_reducible refine d108_1_LEngineOk (by with_unfolding_all rfl) (by kernel_rfl) ?_ | with_reducible refine d108_2_LEngineOk (by with_unfolding_all rfl) (by kernel_rfl) ?_ | with_reducible refine d108_3_LEngineOk (by with_unfolding_all rfl) (by kernel_rfl) ?_ | with_reducible refine d108_4_LEngineOk (by with_unfolding_all rfl) (by kernel_rfl) ?_ | fail) <;> try simp only [go_sem, BEq.rfl] | fail)
    refine for_at (0) [2, 3] (fun i f h => f 5 = (.one (.c (.int .i64 (i)))) ∧ h = [.own 0 31 6 (some 1) [[.im ([]), .im ([]), .im ([]), .im ([]), .im ([]), .c (.int .i64 (0))]], .own 0 31 6 (some 1) [[.im ([]), .im ([]), .im ([]), .im ([]), .im ([]), .c (.int .i64 (0))]]]) (GC.now ?_) ?_
    · simp only [go_sem, nc_0, true_and]
    · rintro i f h J hi hA ⟨e5, rfl⟩ hJ
      simp only [go_sem] at hA
      simp only [go_sem, hA, e5]
      have hn0 : ¬ (decide ((i : Int) < ((0 : Nat) : Int)) = true) := fun q => by have := of_decide_eq_true q; omega
      refine c_split (fun hb => ?_) (fun hb => ?_)
      rotate_left
      · simp only [go_sem, hb, hA, e5]
        obtain rfl := ge_len hb hi
        (try simp only [go_sem, hA, e5]); repeat' (first | (with_reducible first | refine c_split ?_ ?_ | refine w_split ?_ ?_ | refine tw_split ?_ ?_) <;> intro hb <;> try simp only [go_sem, hb, hA, e5] | (first | with_reducible refine d108_0_LEngineOk (by with_unfolding_all rfl) (by kernel_rfl) ?_ | with_reducible refine d108_1_LEngineOk (by with_unfolding_all rfl) (by kernel_rfl) ?_ | with_reducible refine d108_2_LEngineOk (by with_unfolding_all rfl) (by kernel_rfl) ?_ | with_reducible refine d108_3_LEngineOk (by with_unfolding_all rfl) (by kernel_rfl) ?_ | with_reducible refine d108_4_LEngineOk (by with_unfolding_all rfl) (by kernel_rfl) ?_ | fail) <;> try simp only [go_sem, hA, e5] | fail)
        have hq0 := hA
        refine for_at (0) [2, 3] (fun i f h => f 6 = (.one (.c (.int .i64 (i)))) ∧ h = [.own 0 31 6 (some 1) [[.im ([]), .im ([]), .im ([]), .im ([]), .im ([]), .c (.int .i64 (0))]], .own 0 31 6 (some 1) [[.im ([]), .im ([]), .im ([]), .im ([]), .im ([]), .c (.int .i64 (0))]]]) (GC.now ?_) ?_
        · simp only [go_sem, nc_0, true_and, hq0]
        · rintro i f h J hi hA ⟨e6, rfl⟩ hJ
          simp only [go_sem, hq0] at hA
          simp only [go_sem, hA, e6, hq0]
          try simp only [hq0] at hA
          have hn1 : ¬ (decide ((i : Int) < ((0 : Nat) : Int)) = true) := fun q => by have := of_decide_eq_true q; omega
          refine c_split (fun hb => ?_) (fun hb => ?_)
          rotate_left
          · simp only [go_sem, hb, hA, e6, hq0]
            obtain rfl := ge_len hb hi
            (try simp only [go_sem, hA, e6, hq0]); repeat' (first | (with_reducible first | refine c_split ?_ ?_ | refine w_split ?_ ?_ | refine tw_split ?_ ?_) <;> intro hb <;> try simp only [go_sem, hb, hA, e6, hq0] | (first | with_reducible refine d108_0_LEngineOk (by with_unfolding_all rfl) (by kernel_rfl) ?_ | with_reducible refine d108_1_LEngineOk (by with_unfolding_all rfl) (by kernel_rfl) ?_ | with_reducible refine d108_2_LEngineOk (by with_unfolding_all rfl) (by kernel_rfl) ?_ | with_reducible refine d108_3_LEngineOk (by with_unfolding_all rfl) (by kernel_rfl) ?_ | with_reducible refine d108_4_LEngineOk (by with_unfolding_all rfl) (by kernel_rfl) ?_ | fail) <;> try simp only [go_sem, hA, e6, hq0] | fail)
            have hq1 := hA
            refine for_at (0) [2, 3] (fun i f h => f 7 = (.one (.c (.int .i64 (i)))) ∧ h = [.own 0 31 6 (some 1) [[.im ([]), .im ([]), .im ([]), .im ([]), .im ([]), .c (.int .i64 (0))]], .own 0 31 6 (some 1) [[.im ([]), .im ([]), .im ([]), .im ([]), .im ([]), .c (.int .i64 (0))]]]) (GC.now ?_) ?_
            · simp only [go_sem, nc_0, true_and, hq1]
            · rintro i f h J hi hA ⟨e7, rfl⟩ hJ
              simp only [go_sem, hq1] at hA
              simp only [go_sem, hA, e7, hq1]
              try simp only [hq1] at hA
              have hn2 : ¬ (decide ((i : Int) < ((0 : Nat) : Int)) = true) := fun q => by have := of_decide_eq_true q; omega
              refine c_split (fun hb => ?_) (fun hb => ?_)
              rotate_left
              · simp only [go_sem, hb, hA, e7, hq1]
                obtain rfl := ge_len hb hi
                (try simp only [go_sem, hA, e7, hq1]); repeat' (first | (with_reducible first | refine c_split ?_ ?_ | refine w_split ?_ ?_ | refine tw_split ?_ ?_) <;> intro hb <;> try simp only [go_sem, hb, hA, e7, hq1] | (first | with_reducible refine d108_0_LEngineOk (by with_unfolding_all rfl) (by kernel_rfl) ?_ | with_reducible refine d108_1_LEngineOk (by with_unfolding_all rfl) (by kernel_rfl) ?_ | with_reducible refine d108_2_LEngineOk (by with_unfolding_all rfl) (by kernel_rfl) ?_ | with_reducible refine d108_3_LEngineOk (by with_unfolding_all rfl) (by kernel_rfl) ?_ | with_reducible refine d108_4_LEngineOk (by with_unfolding_all rfl) (by kernel_rfl) ?_ | fail) <;> try simp only [go_sem, hA, e7, hq1] | fail)
                have hq2 := hA
                refine for_at (0) [2, 3] (fun i f h => f 8 = (.one (.c (.int .i64 (i)))) ∧ h = [.own 0 31 6 (some 1) [[.im ([]), .im ([]), .im ([]), .im ([]), .im ([]), .c (.int .i64 (0))]], .own 0 31 6 (some 1) [[.im ([]), .im ([]), .im ([]), .im ([]), .im ([]), .c (.int .i64 (0))]]]) (GC.now ?_) ?_
                · simp only [go_sem, nc_0, true_and, hq2]
                · rintro i f h J hi hA ⟨e8, rfl⟩ hJ
                  simp only [go_sem, hq2] at hA
                  simp only [go_sem, hA, e8, hq2]
                  try simp only [hq2] at hA
                  have hn3 : ¬ (decide ((i : Int) < ((0 : Nat) : Int)) = true) := fun q => by have := of_decide_eq_true q; omega
                  refine c_split (fun hb => ?_) (fun hb => ?_)
                  rotate_left
                  · simp only [go_sem, hb, hA, e8, hq2]
                    obtain rfl := ge_len hb hi
                    (try simp only [go_sem, hA, e8, hq2]); repeat' (first | (with_reducible first | refine c_split ?_ ?_ | refine w_split ?_ ?_ | refine tw_split ?_ ?_) <;> intro hb <;> try simp only [go_sem, hb, hA, e8, hq2] | (first | with_reducible refine d108_0_LEngineOk (by with_unfolding_all rfl) (by kernel_rfl) ?_ | with_reducible refine d108_1_LEngineOk (by with_unfolding_all rfl) (by kernel_rfl) ?_ | with_reducible refine d108_2_LEngineOk (by with_unfolding_all rfl) (by kernel_rfl) ?_ | with_reducible refine d108_3_LEngineOk (by with_unfolding_all rfl) (by kernel_rfl) ?_ | with_reducible refine d108_4_LEngineOk (by with_unfolding_all rfl) (by kernel_rfl) ?_ | fail) <;> try simp only [go_sem, hA, e8, hq2] | fail)
                    have hq3 := hA
                    refine for_at (0) [2, 3] (fun i f h => f 9 = (.one (.c (.int .i64 (i)))) ∧ h = [.own 0 31 6 (some 1) [[.im ([]), .im ([]), .im ([]), .im ([]), .im ([]), .c (.int .i64 (0))]], .own 0 31 6 (some 1) [[.im ([]), .im ([]), .im ([]), .im ([]), .im ([]), .c (.int .i64 (0))]]]) (GC.now ?_) ?_
                    · simp only [go_sem, nc_0, true_and, hq3]
                    · rintro i f h J hi hA ⟨e9, rfl⟩ hJ
                      simp only [go_sem, hq3] at hA
                      simp only [go_sem, hA, e9, hq3]
                      try simp only [hq3] at hA
                      have hn4 : ¬ (decide ((i : Int) < ((0 : Nat) : Int)) = true) := fun q => by have := of_decide_eq_true q; omega
                      refine c_split (fun hb => ?_) (fun hb => ?_)
                      rotate_left
                      · simp only [go_sem, hb, hA, e9, hq3]
                        obtain rfl := ge_len hb hi
                        (try simp only [go_sem, hA, e9, hq3]); repeat' (first | (with_reducible first | refine c_split ?_ ?_ | refine w_split ?_ ?_ | refine tw_split ?_ ?_) <;> intro hb <;> try simp only [go_sem, hb, hA, e9, hq3] | (first | with_reducible refine d108_0_LEngineOk (by with_unfolding_all rfl) (by kernel_rfl) ?_ | with_reducible refine d108_1_LEngineOk (by with_unfolding_all rfl) (by kernel_rfl) ?_ | with_reducible refine d108_2_LEngineOk (by with_unfolding_all rfl) (by kernel_rfl) ?_ | with_reducible refine d108_3_LEngineOk (by with_unfolding_all rfl) (by kernel_rfl) ?_ | with_reducible refine d108_4_LEngineOk (by with_unfolding_all rfl) (by kernel_rfl) ?_ | fail) <;> try simp only [go_sem, hA, e9, hq3] | with_reducible refine hQ _ _ ?_ <;> simp only [Tryz.f108, go_sem, hA, e9, hq3])
                        exact hk
                      exact absurd hb hn4
                  exact absurd hb hn3
              exact absurd hb hn2
          exact absurd hb hn1
      exact absurd hb hn0
theorem any_findG {α : Type} {p : α → Bool} (ns : List α) : decide (0 ≤ findG p ns) = ns.any p := by
  rcases findO_cases p ns with ⟨k, hk, e1, e2⟩ | ⟨e1, e2⟩
  · rw [e1, decide_eq_true (Int.natCast_nonneg k)]
    exact (List.any_eq_true.2 ⟨_, List.getElem_mem hk, List.find?_some e2⟩).symm
  · rw [e1]
    have := List.find?_eq_none.1 e2
    symm
    rw [show decide ((0 : Int) ≤ -1) = false from rfl, List.any_eq_false]
    exact this
def lateB (f : File) : Bool := !(decide (f.late = ⟨#[]⟩))
theorem c_EngineOk1 (f : File) (K : AV → AH → Prop) (hk : K (.one (.c (.bool (lateB f)))) []) : ACalls Tryz.prog 112 [.agg (fileC f)] [] K := by
  refine acall_c Tryz.f112.results.toList mixed Tryz.func112 rfl rfl (by kernel_rfl) ?_
  intro Q hQ hQO
  simp only [go_sem]
  (try simp only [go_sem]); repeat' (first | (with_reducible first | refine c_split ?_ ?_ | refine w_split ?_ ?_) <;> intro hb <;> try simp only [go_sem, hb] | with_reducible refine hQ _ _ ?_ <;> simp only [Tryz.f112, go_sem])
  exact hk
theorem calK_b0 (args : List AV) (K : AV → AH → Prop) (b : Bool) (hk : K (.one (.c (.bool (b)))) []) : calK args [] K (.one (.c (.bool (b)))) [] := by
  unfold calK
  rw [if_pos ⟨rfl, rfl⟩]
  exact hk
theorem c_ContainsFile0 (xs : List File) (g : Nat) (p : File → Bool) (K : AV → AH → Prop) (hn : xs.length ≤ 1000000000)
    (hp : ∀ i (hi : i < xs.length) (K' : AV → AH → Prop), K' (.one (.c (.bool (p xs[i])))) [] → ACalls Tryz.prog g [.agg (fileC xs[i])] [] K')
    (hk : K (.one (.c (.bool (xs.any p)))) []) : ACalls Tryz.prog 111 [(.one (.im (xs.map fileC))), .one (.clo g [])] [] K := by
  refine acall_c Tryz.f111.results.toList mixed Tryz.func111 rfl rfl (by kernel_rfl) ?_
  intro Q hQ hQO
  simp only [go_sem]
  (try simp only [go_sem, any_findG]); repeat' (first | (with_reducible first | refine c_split ?_ ?_ | refine w_split ?_ ?_) <;> intro hb <;> try simp only [go_sem, hb, any_findG] | refine call_c (c_IndexFunc xs g [] p [] _ hn (fun i hi K' hk' => .inr (.inr (.inr (.inl ⟨rfl, hp i hi _ (calK_b0 _ _ _ hk')⟩)))) ?_) <;> try simp only [go_sem, any_findG] | with_reducible refine hQ _ _ ?_ <;> simp only [Tryz.f111, go_sem, any_findG])
  exact hk
def engOk (e : Eng) : Bool := diskOk e.disk && (if e.up = true then (booksOk e.books && decide (0 ≤ e.seg ∧ e.seg ≤ 19) && decide (0 ≤ e.count ∧ e.count ≤ 6)) else ((e.seg == 0) && (e.count == 0) && bareB e.books && !(e.disk.files.any lateB)))
structure SmallE (e : Eng) : Prop where
  hn : e.disk.files.length ≤ 1000000000
  hb : Small e.books
theorem c_impl_EngineOk (e : Eng) (hs : SmallE e) (K : AV → AH → Prop) (hk : K (.one (.c (.bool (engOk e)))) []) : ACalls Tryz.prog 47 [.agg (engC e)] [] K := by
  refine acall_c Tryz.f47.results.toList mixed Tryz.func47 rfl rfl (by kernel_rfl) ?_
  intro Q hQ hQO
  simp only [go_sem]
  (try simp only [go_sem]); repeat' (first | (with_reducible first | refine c_split ?_ ?_ | refine w_split ?_ ?_) <;> intro hb <;> try simp only [go_sem, hb] | (first | refine call_c (c_impl_DiskOk e.disk hs.hn _ ?_) | refine call_c (c_impl_BooksOk e.books hs.hb _ ?_) | refine call_c (c_isSeg _ _ ?_) | refine call_c (c_in _ _ _ _ ?_) | refine call_c (c_impl_BooksSame0 e.books hs.hb _ ?_) | refine call_c (c_ContainsFile0 e.disk.files _ lateB _ hs.hn (fun i _ K' hk' => c_EngineOk1 e.disk.files[i] _ hk') ?_) | fail) <;> try simp only [go_sem] | with_reducible refine hQ _ _ ?_ <;> simp only [Tryz.f47, go_sem])
  all_goals exact kB hk (by simp only [engOk]; first | (simp_all; done) | (simp_all; omega))
theorem c_spec_EngineOk (e : Eng) (hs : SmallE e) (K : AV → AH → Prop) (hk : K (.one (.c (.bool (engOk e)))) []) : ACalls Tryz.prog 46 [.agg (engC e)] [] K := by
  have hsn := hs.hn
  refine acall_c Tryz.f46.results.toList mixed Tryz.func46 rfl rfl (by kernel_rfl) ?_
  intro Q hQ hQO
  simp only [go_sem]
  cases hd : diskOk e.disk with
  | false =>
    rw [engOk, hd] at hk
    (try simp only [go_sem, hd]); repeat' (first | (with_reducible first | refine c_split ?_ ?_ | refine w_split ?_ ?_) <;> intro hb <;> try simp only [go_sem, hb, hd] | refine call_c (c_spec_DiskOk e.disk hsn _ ?_) <;> try simp only [go_sem, hd] | with_reducible refine hQ _ _ ?_ <;> simp only [Tryz.f46, go_sem, hd])
    exact hk
  | true =>
    cases hu : e.up with
    | true =>
      (try simp only [go_sem, hd, hu]); repeat' (first | (with_reducible first | refine c_split ?_ ?_ | refine w_split ?_ ?_) <;> intro hb <;> try simp only [go_sem, hb, hd, hu] | (first | refine call_c (c_spec_DiskOk e.disk hsn _ ?_) | refine call_c (c_BooksOk e.books hs.hb _ ?_) | refine call_c (c_l15Seg _ _ ?_) | refine call_c (c_l1In _ _ _ _ ?_) | fail) <;> try simp only [go_sem, hd, hu] | with_reducible refine hQ _ _ ?_ <;> simp only [Tryz.f46, go_sem, hd, hu])
      all_goals exact kB hk (by simp only [engOk]; first | (simp_all; done) | (simp_all; omega))
    | false =>
      (try simp only [go_sem, hd, hu]); repeat' (first | (with_reducible first | refine c_split ?_ ?_ | refine w_split ?_ ?_) <;> intro hb <;> try simp only [go_sem, hb, hd, hu] | refine call_c (c_spec_DiskOk e.disk hsn _ ?_) <;> try simp only [go_sem, hd, hu] | fail)
      refine for_at (e.disk.files.length) [1] (fun i f h => f 3 = (.one (.c (.int .i64 (i)))) ∧ h = [.own 0 33 11 (some 1) [engC e]] ∧ noneTo lateB e.disk.files i) (GC.now ?_) ?_
      · simp only [go_sem, nc_0, true_and, hu]
        exact noneTo_0 _ _
      · rintro i f h J hi hA ⟨e3, rfl, hP⟩ hJ
        simp only [go_sem, hu] at hA
        simp only [go_sem, hA, e3, hu]
        refine c_split (fun hb => ?_) (fun hb => ?_)
        rotate_left
        · simp only [go_sem, hb, hA, e3, hu]
          obtain rfl := ge_len hb hi
          have hany : e.disk.files.any lateB = false := List.any_eq_false.2 fun x hx => by
            obtain ⟨i, hi, rfl⟩ := List.mem_iff_getElem.1 hx
            have := hP i hi hi
            simp [this]
          (try simp only [go_sem, hA, e3, hu]); repeat' (first | (with_reducible first | refine c_split ?_ ?_ | refine w_split ?_ ?_) <;> intro hb <;> try simp only [go_sem, hb, hA, e3, hu] | refine call_c (c_spec_BooksSame0 e.books hs.hb _ ?_) <;> try simp only [go_sem, hA, e3, hu] | with_reducible refine hQ _ _ ?_ <;> simp only [Tryz.f46, go_sem, hA, e3, hu])
          all_goals exact kB hk (by simp only [engOk]; simp_all)
        have hi := lt_len hb
        have hw := wrap_nat i (by omega)
        have hil : (i : Int) < ((e.disk.files.length : Nat) : Int) := Int.ofNat_lt.2 hi
        have hg0 : (e.disk.files)[i]? = some ((e.disk.files)[i]) := List.getElem?_eq_getElem (by omega)
        simp only [go_sem, hb, hA, e3, hu, hg0]
        try simp only [go_sem, hA, e3, hu, hil, hg0]
        cases hl : decide (e.disk.files[i].late = ⟨#[]⟩) with
        | true =>
          (try simp only [go_sem, hA, e3, hu, hil, hg0, hl]); repeat' (first | (with_reducible first | refine c_split ?_ ?_ | refine w_split ?_ ?_) <;> intro hb <;> try simp only [go_sem, hb, hA, e3, hu, hil, hg0, hl] | fail)
          refine gc_trim 1 (by decide) (by simp only [go_sem]) (by simp only [go_sem]) (hJ _ _ hi (by simp only [go_sem, hA, e3, hu]) ⟨?_, ?_, ?_⟩) <;> try simp only [go_sem, hA, e3, hu, hw]
          exact noneTo_s hP hi (by rw [lateB, hl]; rfl)
        | false =>
          have hany : e.disk.files.any lateB = true := List.any_eq_true.2 ⟨_, List.getElem_mem hi, by rw [lateB, hl]; rfl⟩
          (try simp only [go_sem, hA, e3, hu, hil, hg0, hl]); repeat' (first | (with_reducible first | refine c_split ?_ ?_ | refine w_split ?_ ?_) <;> intro hb <;> try simp only [go_sem, hb, hA, e3, hu, hil, hg0, hl] | with_reducible refine hQ _ _ ?_ <;> simp only [Tryz.f46, go_sem, hA, e3, hu, hil, hg0, hl])
          exact kB hk (by simp only [engOk]; simp_all)
end Go.Proofs.YtlefjpbhbiajfaaGreat
end
section
namespace Go.Proofs.YtlefjpbhbiajfaaGreat
open Go.BL Go.RowKit
set_option linter.unusedVariables false
set_option linter.unusedSimpArgs false
set_option maxRecDepth 100000
attribute [local go_sem] accountC balC lotC tradeC booksC booksA
def markAccount (k : Int) (i : Nat) : Account := ⟨k + 2 * i, k + 2 * i + 1⟩
def marksAccount (k : Int) (n : Nat) : List Account := (List.range n).map (markAccount k)
theorem marksAccount_len (k : Int) (n : Nat) : (marksAccount k n).length = n := by simp [marksAccount]
theorem marksAccount_tk (k : Int) (n : Nat) : ((marksAccount k n).map accountC).take n = (marksAccount k n).map accountC := List.take_of_length_le (by simp [marksAccount])
theorem c_markAccountS (xs : List Account) (k : Int) (l g : Nat) (cap : Option Nat) (h0 : AH) (hl : h0[l]? = some (.own g 129 2 cap (xs.map accountC))) (hn : xs.length ≤ 1000000000) (hk0 : 0 ≤ k) (hk1 : k ≤ 1000000000000)
    (K : AV → AH → Prop) (hk : K (.one (.c (.int .i64 (k + 2 * xs.length)))) (h0.set l (.own g 129 2 cap ((marksAccount k xs.length).map accountC)))) : ACalls Tryz.prog 118 [.one (.sl l g 0 xs.length), (.one (.c (.int .i64 (k))))] h0 K := by
  have hall : ∀ o, (h0.set l o)[l]? = some o := set_at hl
  refine acall_m Tryz.f118.results.toList mixed Tryz.func118 rfl rfl (by kernel_rfl) ?_
  intro hwf Q hQ
  simp only [go_sem, hl]
  refine for_at (xs.length) [0] (fun i f h => f 1 = (.one (.c (.int .i64 (k + 2 * i)))) ∧ f 5 = (.one (.c (.int .i64 (i)))) ∧ h = h0.set l (.own g 129 2 cap ((fillR (markAccount k) xs i).map accountC))) (GC.now ?_) ?_
  · simp only [go_sem, nc_0, true_and, hall, hl]
    rw [fill_0, set_same hl]; simp
  · rintro i f h J hi hA ⟨e1, e5, rfl⟩ hJ
    simp only [go_sem, hall, hl] at hA
    simp only [go_sem, hA, e1, e5, hall, hl]
    refine c_split (fun hb => ?_) (fun hb => ?_)
    rotate_left
    · simp only [go_sem, hb, hA, e1, e5, hall, hl]
      obtain rfl := ge_len hb hi
      refine hQ (h0.set l (.own g 129 2 cap ((fillR (markAccount k) xs xs.length).map accountC))) _ _ ?_; refine GC.now (ret_m (by simp only [go_sem, Tryz.f118, hA, e1, e5, hall, hl]; exact _root_.id rfl) (by simp only [go_sem]) (by simp) (by first | exact hwf | exact wf_set hwf (by simp only [go_sem, hA, e1, e5, hall, hl]) | exact wf_set2 hwf (by simp only [go_sem, hA, e1, e5, hall, hl]) (by simp only [go_sem, hA, e1, e5, hall, hl]) | (simp only [go_sem]; done)) (by first | exact ⟨_, _root_.id rfl⟩ | exact ⟨[], (List.append_nil _).symm⟩) ?_) <;> simp only [go_sem, hA, e1, e5, hall, hl]
      rw [fill_all]
      exact hk
    have hi := lt_len hb
    have hw := wrap_nat i (by omega)
    have hil : (i : Int) < ((xs.length : Nat) : Int) := Int.ofNat_lt.2 hi
    have hg0 : (xs)[i]? = some ((xs)[i]) := List.getElem?_eq_getElem (by omega)
    simp only [go_sem, hb, hA, e1, e5, hall, hl, hg0]
    try simp only [go_sem, hA, e1, e5, hall, hl, hil, hg0]
    have hold := fill_get (markAccount k) xs i
    rw [hg0] at hold
    have hself : ∀ x, ((fillR (markAccount k) xs i).set i x)[i]? = some x := set_at hold
    have hset : (fillR (markAccount k) xs i).set i ⟨k + 2 * i, k + 2 * i + 1⟩ = fillR (markAccount k) xs (i + 1) := fill_set (markAccount k) xs i hi _ rfl
    have w1 : wrap64 (k + 2 * (i : Int) + 1) = k + 2 * i + 1 := by unfold wrap64; omega
    have w2 : wrap64 (k + 2 * (i : Int) + 1 + 1) = k + 2 * ((i + 1 : Nat) : Int) := by unfold wrap64; omega
    (try simp only [go_sem, hA, e1, e5, hall, hl, hil, hg0, hold, hself, List.set_set, w1, w2]); repeat' (first | (with_reducible first | refine c_split ?_ ?_ | refine w_split ?_ ?_) <;> intro hb <;> try simp only [go_sem, hb, hA, e1, e5, hall, hl, hil, hg0, hold, hself, List.set_set, w1, w2] | fail)
    refine GC.now (hJ _ _ hi (by simp only [go_sem, hA, e1, e5, hall, hl]) ⟨?_, ?_, ?_⟩) <;> try simp only [go_sem, hA, e1, e5, hall, hl, hw, hset]
theorem c_heldAccountS (n : Nat) (k : Int) (hn : n ≤ 1000000000) (hk0 : 0 ≤ k) (hk1 : k ≤ 1000000000000) (K : AV → AH → Prop) (hk : K (.one (.c (.int .i64 (k + 2 * n)))) []) : ACalls Tryz.prog 123 [(.one (.im ((marksAccount k n).map accountC))), (.one (.c (.int .i64 (k))))] [] K := by
  have hm := marksAccount_len k n
  refine acall_c Tryz.f123.results.toList mixed Tryz.func123 rfl rfl (by kernel_rfl) ?_
  intro Q hQ hQO
  simp only [go_sem, BEq.rfl]
  refine for_at (n) [0] (fun i f h => f 1 = (.one (.c (.int .i64 (k + 2 * i)))) ∧ f 5 = (.one (.c (.int .i64 (i)))) ∧ h = []) (GC.now ?_) ?_
  · simp only [go_sem, nc_0, true_and, hm]
    simp
  · rintro i f h J hi hA ⟨e1, e5, rfl⟩ hJ
    simp only [go_sem, hm] at hA
    simp only [go_sem, hA, e1, e5, hm]
    refine c_split (fun hb => ?_) (fun hb => ?_)
    rotate_left
    · simp only [go_sem, hb, hA, e1, e5, hm]
      obtain rfl := ge_len hb hi
      (try simp only [go_sem, hA, e1, e5, hm]); repeat' (first | (with_reducible first | refine c_split ?_ ?_ | refine w_split ?_ ?_) <;> intro hb <;> try simp only [go_sem, hb, hA, e1, e5, hm] | with_reducible refine hQ _ _ ?_ <;> simp only [Tryz.f123, go_sem, hA, e1, e5, hm])
      exact hk
    have hi := lt_len hb
    have hw := wrap_nat i (by omega)
    have hil : (i : Int) < ((n : Nat) : Int) := Int.ofNat_lt.2 hi
    simp only [go_sem, hb, hA, e1, e5, hm]
    try simp only [go_sem, hA, e1, e5, hm, hil]
    have hg : (marksAccount k n)[i]? = some (markAccount k i) := by simp [marksAccount, hi]
    have w1 : wrap64 (k + 2 * (i : Int) + 1) = k + 2 * i + 1 := by unfold wrap64; omega
    have w2 : wrap64 (k + 2 * (i : Int) + 1 + 1) = k + 2 * ((i + 1 : Nat) : Int) := by unfold wrap64; omega
    (try simp only [go_sem, hA, e1, e5, hm, hil, hg, markAccount, BEq.rfl, w1, w2]); repeat' (first | (with_reducible first | refine c_split ?_ ?_ | refine w_split ?_ ?_) <;> intro hb <;> try simp only [go_sem, hb, hA, e1, e5, hm, hil, hg, markAccount, BEq.rfl, w1, w2] | fail)
    refine GC.now (hJ _ _ hi (by simp only [go_sem, hA, e1, e5, hm]) ⟨?_, ?_, ?_⟩) <;> try simp only [go_sem, hA, e1, e5, hm, hw]
def markInstr (k : Int) (i : Nat) : Account := ⟨k + 2 * i, k + 2 * i + 1⟩
def marksInstr (k : Int) (n : Nat) : List Account := (List.range n).map (markInstr k)
theorem marksInstr_len (k : Int) (n : Nat) : (marksInstr k n).length = n := by simp [marksInstr]
theorem marksInstr_tk (k : Int) (n : Nat) : ((marksInstr k n).map accountC).take n = (marksInstr k n).map accountC := List.take_of_length_le (by simp [marksInstr])
theorem c_markInstrS (xs : List Account) (k : Int) (l g : Nat) (cap : Option Nat) (h0 : AH) (hl : h0[l]? = some (.own g 131 2 cap (xs.map accountC))) (hn : xs.length ≤ 1000000000) (hk0 : 0 ≤ k) (hk1 : k ≤ 1000000000000)
    (K : AV → AH → Prop) (hk : K (.one (.c (.int .i64 (k + 2 * xs.length)))) (h0.set l (.own g 131 2 cap ((marksInstr k xs.length).map accountC)))) : ACalls Tryz.prog 119 [.one (.sl l g 0 xs.length), (.one (.c (.int .i64 (k))))] h0 K := by
  have hall : ∀ o, (h0.set l o)[l]? = some o := set_at hl
  refine acall_m Tryz.f119.results.toList mixed Tryz.func119 rfl rfl (by kernel_rfl) ?_
  intro hwf Q hQ
  simp only [go_sem, hl]
  refine for_at (xs.length) [0] (fun i f h => f 1 = (.one (.c (.int .i64 (k + 2 * i)))) ∧ f 5 = (.one (.c (.int .i64 (i)))) ∧ h = h0.set l (.own g 131 2 cap ((fillR (markInstr k) xs i).map accountC))) (GC.now ?_) ?_
  · simp only [go_sem, nc_0, true_and, hall, hl]
    rw [fill_0, set_same hl]; simp
  · rintro i f h J hi hA ⟨e1, e5, rfl⟩ hJ
    simp only [go_sem, hall, hl] at hA
    simp only [go_sem, hA, e1, e5, hall, hl]
    refine c_split (fun hb => ?_) (fun hb => ?_)
    rotate_left
    · simp only [go_sem, hb, hA, e1, e5, hall, hl]
      obtain rfl := ge_len hb hi
      refine hQ (h0.set l (.own g 131 2 cap ((fillR (markInstr k) xs xs.length).map accountC))) _ _ ?_; refine GC.now (ret_m (by simp only [go_sem, Tryz.f119, hA, e1, e5, hall, hl]; exact _root_.id rfl) (by simp only [go_sem]) (by simp) (by first | exact hwf | exact wf_set hwf (by simp only [go_sem, hA, e1, e5, hall, hl]) | exact wf_set2 hwf (by simp only [go_sem, hA, e1, e5, hall, hl]) (by simp only [go_sem, hA, e1, e5, hall, hl]) | (simp only [go_sem]; done)) (by first | exact ⟨_, _root_.id rfl⟩ | exact ⟨[], (List.append_nil _).symm⟩) ?_) <;> simp only [go_sem, hA, e1, e5, hall, hl]
      rw [fill_all]
      exact hk
    have hi := lt_len hb
    have hw := wrap_nat i (by omega)
    have hil : (i : Int) < ((xs.length : Nat) : Int) := Int.ofNat_lt.2 hi
    have hg0 : (xs)[i]? = some ((xs)[i]) := List.getElem?_eq_getElem (by omega)
    simp only [go_sem, hb, hA, e1, e5, hall, hl, hg0]
    try simp only [go_sem, hA, e1, e5, hall, hl, hil, hg0]
    have hold := fill_get (markInstr k) xs i
    rw [hg0] at hold
    have hself : ∀ x, ((fillR (markInstr k) xs i).set i x)[i]? = some x := set_at hold
    have hset : (fillR (markInstr k) xs i).set i ⟨k + 2 * i, k + 2 * i + 1⟩ = fillR (markInstr k) xs (i + 1) := fill_set (markInstr k) xs i hi _ rfl
    have w1 : wrap64 (k + 2 * (i : Int) + 1) = k + 2 * i + 1 := by unfold wrap64; omega
    have w2 : wrap64 (k + 2 * (i : Int) + 1 + 1) = k + 2 * ((i + 1 : Nat) : Int) := by unfold wrap64; omega
    (try simp only [go_sem, hA, e1, e5, hall, hl, hil, hg0, hold, hself, List.set_set, w1, w2]); repeat' (first | (with_reducible first | refine c_split ?_ ?_ | refine w_split ?_ ?_) <;> intro hb <;> try simp only [go_sem, hb, hA, e1, e5, hall, hl, hil, hg0, hold, hself, List.set_set, w1, w2] | fail)
    refine GC.now (hJ _ _ hi (by simp only [go_sem, hA, e1, e5, hall, hl]) ⟨?_, ?_, ?_⟩) <;> try simp only [go_sem, hA, e1, e5, hall, hl, hw, hset]
theorem c_heldInstrS (n : Nat) (k : Int) (hn : n ≤ 1000000000) (hk0 : 0 ≤ k) (hk1 : k ≤ 1000000000000) (K : AV → AH → Prop) (hk : K (.one (.c (.int .i64 (k + 2 * n)))) []) : ACalls Tryz.prog 124 [(.one (.im ((marksInstr k n).map accountC))), (.one (.c (.int .i64 (k))))] [] K := by
  have hm := marksInstr_len k n
  refine acall_c Tryz.f124.results.toList mixed Tryz.func124 rfl rfl (by kernel_rfl) ?_
  intro Q hQ hQO
  simp only [go_sem, BEq.rfl]
  refine for_at (n) [0] (fun i f h => f 1 = (.one (.c (.int .i64 (k + 2 * i)))) ∧ f 5 = (.one (.c (.int .i64 (i)))) ∧ h = []) (GC.now ?_) ?_
  · simp only [go_sem, nc_0, true_and, hm]
    simp
  · rintro i f h J hi hA ⟨e1, e5, rfl⟩ hJ
    simp only [go_sem, hm] at hA
    simp only [go_sem, hA, e1, e5, hm]
    refine c_split (fun hb => ?_) (fun hb => ?_)
    rotate_left
    · simp only [go_sem, hb, hA, e1, e5, hm]
      obtain rfl := ge_len hb hi
      (try simp only [go_sem, hA, e1, e5, hm]); repeat' (first | (with_reducible first | refine c_split ?_ ?_ | refine w_split ?_ ?_) <;> intro hb <;> try simp only [go_sem, hb, hA, e1, e5, hm] | with_reducible refine hQ _ _ ?_ <;> simp only [Tryz.f124, go_sem, hA, e1, e5, hm])
      exact hk
    have hi := lt_len hb
    have hw := wrap_nat i (by omega)
    have hil : (i : Int) < ((n : Nat) : Int) := Int.ofNat_lt.2 hi
    simp only [go_sem, hb, hA, e1, e5, hm]
    try simp only [go_sem, hA, e1, e5, hm, hil]
    have hg : (marksInstr k n)[i]? = some (markInstr k i) := by simp [marksInstr, hi]
    have w1 : wrap64 (k + 2 * (i : Int) + 1) = k + 2 * i + 1 := by unfold wrap64; omega
    have w2 : wrap64 (k + 2 * (i : Int) + 1 + 1) = k + 2 * ((i + 1 : Nat) : Int) := by unfold wrap64; omega
    (try simp only [go_sem, hA, e1, e5, hm, hil, hg, markInstr, BEq.rfl, w1, w2]); repeat' (first | (with_reducible first | refine c_split ?_ ?_ | refine w_split ?_ ?_) <;> intro hb <;> try simp only [go_sem, hb, hA, e1, e5, hm, hil, hg, markInstr, BEq.rfl, w1, w2] | fail)
    refine GC.now (hJ _ _ hi (by simp only [go_sem, hA, e1, e5, hm]) ⟨?_, ?_, ?_⟩) <;> try simp only [go_sem, hA, e1, e5, hm, hw]
def markBal (k : Int) (i : Nat) : Bal := ⟨k + 3 * i, k + 3 * i + 1, k + 3 * i + 2⟩
def marksBal (k : Int) (n : Nat) : List Bal := (List.range n).map (markBal k)
theorem marksBal_len (k : Int) (n : Nat) : (marksBal k n).length = n := by simp [marksBal]
theorem marksBal_tk (k : Int) (n : Nat) : ((marksBal k n).map balC).take n = (marksBal k n).map balC := List.take_of_length_le (by simp [marksBal])
theorem c_markBalS (xs : List Bal) (k : Int) (l g : Nat) (cap : Option Nat) (h0 : AH) (hl : h0[l]? = some (.own g 134 3 cap (xs.map balC))) (hn : xs.length ≤ 1000000000) (hk0 : 0 ≤ k) (hk1 : k ≤ 1000000000000)
    (K : AV → AH → Prop) (hk : K (.one (.c (.int .i64 (k + 3 * xs.length)))) (h0.set l (.own g 134 3 cap ((marksBal k xs.length).map balC)))) : ACalls Tryz.prog 120 [.one (.sl l g 0 xs.length), (.one (.c (.int .i64 (k))))] h0 K := by
  have hall : ∀ o, (h0.set l o)[l]? = some o := set_at hl
  refine acall_m Tryz.f120.results.toList mixed Tryz.func120 rfl rfl (by kernel_rfl) ?_
  intro hwf Q hQ
  simp only [go_sem, hl]
  refine for_at (xs.length) [0] (fun i f h => f 1 = (.one (.c (.int .i64 (k + 3 * i)))) ∧ f 5 = (.one (.c (.int .i64 (i)))) ∧ h = h0.set l (.own g 134 3 cap ((fillR (markBal k) xs i).map balC))) (GC.now ?_) ?_
  · simp only [go_sem, nc_0, true_and, hall, hl]
    rw [fill_0, set_same hl]; simp
  · rintro i f h J hi hA ⟨e1, e5, rfl⟩ hJ
    simp only [go_sem, hall, hl] at hA
    simp only [go_sem, hA, e1, e5, hall, hl]
    refine c_split (fun hb => ?_) (fun hb => ?_)
    rotate_left
    · simp only [go_sem, hb, hA, e1, e5, hall, hl]
      obtain rfl := ge_len hb hi
      refine hQ (h0.set l (.own g 134 3 cap ((fillR (markBal k) xs xs.length).map balC))) _ _ ?_; refine GC.now (ret_m (by simp only [go_sem, Tryz.f120, hA, e1, e5, hall, hl]; exact _root_.id rfl) (by simp only [go_sem]) (by simp) (by first | exact hwf | exact wf_set hwf (by simp only [go_sem, hA, e1, e5, hall, hl]) | exact wf_set2 hwf (by simp only [go_sem, hA, e1, e5, hall, hl]) (by simp only [go_sem, hA, e1, e5, hall, hl]) | (simp only [go_sem]; done)) (by first | exact ⟨_, _root_.id rfl⟩ | exact ⟨[], (List.append_nil _).symm⟩) ?_) <;> simp only [go_sem, hA, e1, e5, hall, hl]
      rw [fill_all]
      exact hk
    have hi := lt_len hb
    have hw := wrap_nat i (by omega)
    have hil : (i : Int) < ((xs.length : Nat) : Int) := Int.ofNat_lt.2 hi
    have hg0 : (xs)[i]? = some ((xs)[i]) := List.getElem?_eq_getElem (by omega)
    simp only [go_sem, hb, hA, e1, e5, hall, hl, hg0]
    try simp only [go_sem, hA, e1, e5, hall, hl, hil, hg0]
    have hold := fill_get (markBal k) xs i
    rw [hg0] at hold
    have hself : ∀ x, ((fillR (markBal k) xs i).set i x)[i]? = some x := set_at hold
    have hset : (fillR (markBal k) xs i).set i ⟨k + 3 * i, k + 3 * i + 1, k + 3 * i + 2⟩ = fillR (markBal k) xs (i + 1) := fill_set (markBal k) xs i hi _ rfl
    have w1 : wrap64 (k + 3 * (i : Int) + 1) = k + 3 * i + 1 := by unfold wrap64; omega
    have w2 : wrap64 (k + 3 * (i : Int) + 1 + 1) = k + 3 * i + 2 := by unfold wrap64; omega
    have w3 : wrap64 (k + 3 * (i : Int) + 2 + 1) = k + 3 * ((i + 1 : Nat) : Int) := by unfold wrap64; omega
    (try simp only [go_sem, hA, e1, e5, hall, hl, hil, hg0, hold, hself, List.set_set, w1, w2, w3]); repeat' (first | (with_reducible first | refine c_split ?_ ?_ | refine w_split ?_ ?_) <;> intro hb <;> try simp only [go_sem, hb, hA, e1, e5, hall, hl, hil, hg0, hold, hself, List.set_set, w1, w2, w3] | fail)
    refine GC.now (hJ _ _ hi (by simp only [go_sem, hA, e1, e5, hall, hl]) ⟨?_, ?_, ?_⟩) <;> try simp only [go_sem, hA, e1, e5, hall, hl, hw, hset]
theorem c_heldBalS (n : Nat) (k : Int) (hn : n ≤ 1000000000) (hk0 : 0 ≤ k) (hk1 : k ≤ 1000000000000) (K : AV → AH → Prop) (hk : K (.one (.c (.int .i64 (k + 3 * n)))) []) : ACalls Tryz.prog 125 [(.one (.im ((marksBal k n).map balC))), (.one (.c (.int .i64 (k))))] [] K := by
  have hm := marksBal_len k n
  refine acall_c Tryz.f125.results.toList mixed Tryz.func125 rfl rfl (by kernel_rfl) ?_
  intro Q hQ hQO
  simp only [go_sem, BEq.rfl]
  refine for_at (n) [0] (fun i f h => f 1 = (.one (.c (.int .i64 (k + 3 * i)))) ∧ f 5 = (.one (.c (.int .i64 (i)))) ∧ h = []) (GC.now ?_) ?_
  · simp only [go_sem, nc_0, true_and, hm]
    simp
  · rintro i f h J hi hA ⟨e1, e5, rfl⟩ hJ
    simp only [go_sem, hm] at hA
    simp only [go_sem, hA, e1, e5, hm]
    refine c_split (fun hb => ?_) (fun hb => ?_)
    rotate_left
    · simp only [go_sem, hb, hA, e1, e5, hm]
      obtain rfl := ge_len hb hi
      (try simp only [go_sem, hA, e1, e5, hm]); repeat' (first | (with_reducible first | refine c_split ?_ ?_ | refine w_split ?_ ?_) <;> intro hb <;> try simp only [go_sem, hb, hA, e1, e5, hm] | with_reducible refine hQ _ _ ?_ <;> simp only [Tryz.f125, go_sem, hA, e1, e5, hm])
      exact hk
    have hi := lt_len hb
    have hw := wrap_nat i (by omega)
    have hil : (i : Int) < ((n : Nat) : Int) := Int.ofNat_lt.2 hi
    simp only [go_sem, hb, hA, e1, e5, hm]
    try simp only [go_sem, hA, e1, e5, hm, hil]
    have hg : (marksBal k n)[i]? = some (markBal k i) := by simp [marksBal, hi]
    have w1 : wrap64 (k + 3 * (i : Int) + 1) = k + 3 * i + 1 := by unfold wrap64; omega
    have w2 : wrap64 (k + 3 * (i : Int) + 1 + 1) = k + 3 * i + 2 := by unfold wrap64; omega
    have w3 : wrap64 (k + 3 * (i : Int) + 2 + 1) = k + 3 * ((i + 1 : Nat) : Int) := by unfold wrap64; omega
    (try simp only [go_sem, hA, e1, e5, hm, hil, hg, markBal, BEq.rfl, w1, w2, w3]); repeat' (first | (with_reducible first | refine c_split ?_ ?_ | refine w_split ?_ ?_) <;> intro hb <;> try simp only [go_sem, hb, hA, e1, e5, hm, hil, hg, markBal, BEq.rfl, w1, w2, w3] | fail)
    refine GC.now (hJ _ _ hi (by simp only [go_sem, hA, e1, e5, hm]) ⟨?_, ?_, ?_⟩) <;> try simp only [go_sem, hA, e1, e5, hm, hw]
def markLot (k : Int) (i : Nat) : Lot := ⟨k + 5 * i, k + 5 * i + 1, k + 5 * i + 2, k + 5 * i + 3, k + 5 * i + 4⟩
def marksLot (k : Int) (n : Nat) : List Lot := (List.range n).map (markLot k)
theorem marksLot_len (k : Int) (n : Nat) : (marksLot k n).length = n := by simp [marksLot]
theorem marksLot_tk (k : Int) (n : Nat) : ((marksLot k n).map lotC).take n = (marksLot k n).map lotC := List.take_of_length_le (by simp [marksLot])
theorem c_markLotS (xs : List Lot) (k : Int) (l g : Nat) (cap : Option Nat) (h0 : AH) (hl : h0[l]? = some (.own g 137 5 cap (xs.map lotC))) (hn : xs.length ≤ 1000000000) (hk0 : 0 ≤ k) (hk1 : k ≤ 1000000000000)
    (K : AV → AH → Prop) (hk : K (.one (.c (.int .i64 (k + 5 * xs.length)))) (h0.set l (.own g 137 5 cap ((marksLot k xs.length).map lotC)))) : ACalls Tryz.prog 121 [.one (.sl l g 0 xs.length), (.one (.c (.int .i64 (k))))] h0 K := by
  have hall : ∀ o, (h0.set l o)[l]? = some o := set_at hl
  refine acall_m Tryz.f121.results.toList mixed Tryz.func121 rfl rfl (by kernel_rfl) ?_
  intro hwf Q hQ
  simp only [go_sem, hl]
  refine for_at (xs.length) [0] (fun i f h => f 1 = (.one (.c (.int .i64 (k + 5 * i)))) ∧ f 5 = (.one (.c (.int .i64 (i)))) ∧ h = h0.set l (.own g 137 5 cap ((fillR (markLot k) xs i).map lotC))) (GC.now ?_) ?_
  · simp only [go_sem, nc_0, true_and, hall, hl]
    rw [fill_0, set_same hl]; simp
  · rintro i f h J hi hA ⟨e1, e5, rfl⟩ hJ
    simp only [go_sem, hall, hl] at hA
    simp only [go_sem, hA, e1, e5, hall, hl]
    refine c_split (fun hb => ?_) (fun hb => ?_)
    rotate_left
    · simp only [go_sem, hb, hA, e1, e5, hall, hl]
      obtain rfl := ge_len hb hi
      refine hQ (h0.set l (.own g 137 5 cap ((fillR (markLot k) xs xs.length).map lotC))) _ _ ?_; refine GC.now (ret_m (by simp only [go_sem, Tryz.f121, hA, e1, e5, hall, hl]; exact _root_.id rfl) (by simp only [go_sem]) (by simp) (by first | exact hwf | exact wf_set hwf (by simp only [go_sem, hA, e1, e5, hall, hl]) | exact wf_set2 hwf (by simp only [go_sem, hA, e1, e5, hall, hl]) (by simp only [go_sem, hA, e1, e5, hall, hl]) | (simp only [go_sem]; done)) (by first | exact ⟨_, _root_.id rfl⟩ | exact ⟨[], (List.append_nil _).symm⟩) ?_) <;> simp only [go_sem, hA, e1, e5, hall, hl]
      rw [fill_all]
      exact hk
    have hi := lt_len hb
    have hw := wrap_nat i (by omega)
    have hil : (i : Int) < ((xs.length : Nat) : Int) := Int.ofNat_lt.2 hi
    have hg0 : (xs)[i]? = some ((xs)[i]) := List.getElem?_eq_getElem (by omega)
    simp only [go_sem, hb, hA, e1, e5, hall, hl, hg0]
    try simp only [go_sem, hA, e1, e5, hall, hl, hil, hg0]
    have hold := fill_get (markLot k) xs i
    rw [hg0] at hold
    have hself : ∀ x, ((fillR (markLot k) xs i).set i x)[i]? = some x := set_at hold
    have hset : (fillR (markLot k) xs i).set i ⟨k + 5 * i, k + 5 * i + 1, k + 5 * i + 2, k + 5 * i + 3, k + 5 * i + 4⟩ = fillR (markLot k) xs (i + 1) := fill_set (markLot k) xs i hi _ rfl
    have w1 : wrap64 (k + 5 * (i : Int) + 1) = k + 5 * i + 1 := by unfold wrap64; omega
    have w2 : wrap64 (k + 5 * (i : Int) + 1 + 1) = k + 5 * i + 2 := by unfold wrap64; omega
    have w3 : wrap64 (k + 5 * (i : Int) + 2 + 1) = k + 5 * i + 3 := by unfold wrap64; omega
    have w4 : wrap64 (k + 5 * (i : Int) + 3 + 1) = k + 5 * i + 4 := by unfold wrap64; omega
    have w5 : wrap64 (k + 5 * (i : Int) + 4 + 1) = k + 5 * ((i + 1 : Nat) : Int) := by unfold wrap64; omega
    (try simp only [go_sem, hA, e1, e5, hall, hl, hil, hg0, hold, hself, List.set_set, w1, w2, w3, w4, w5]); repeat' (first | (with_reducible first | refine c_split ?_ ?_ | refine w_split ?_ ?_) <;> intro hb <;> try simp only [go_sem, hb, hA, e1, e5, hall, hl, hil, hg0, hold, hself, List.set_set, w1, w2, w3, w4, w5] | fail)
    refine GC.now (hJ _ _ hi (by simp only [go_sem, hA, e1, e5, hall, hl]) ⟨?_, ?_, ?_⟩) <;> try simp only [go_sem, hA, e1, e5, hall, hl, hw, hset]
theorem c_heldLotS (n : Nat) (k : Int) (hn : n ≤ 1000000000) (hk0 : 0 ≤ k) (hk1 : k ≤ 1000000000000) (K : AV → AH → Prop) (hk : K (.one (.c (.int .i64 (k + 5 * n)))) []) : ACalls Tryz.prog 126 [(.one (.im ((marksLot k n).map lotC))), (.one (.c (.int .i64 (k))))] [] K := by
  have hm := marksLot_len k n
  refine acall_c Tryz.f126.results.toList mixed Tryz.func126 rfl rfl (by kernel_rfl) ?_
  intro Q hQ hQO
  simp only [go_sem, BEq.rfl]
  refine for_at (n) [0] (fun i f h => f 1 = (.one (.c (.int .i64 (k + 5 * i)))) ∧ f 5 = (.one (.c (.int .i64 (i)))) ∧ h = []) (GC.now ?_) ?_
  · simp only [go_sem, nc_0, true_and, hm]
    simp
  · rintro i f h J hi hA ⟨e1, e5, rfl⟩ hJ
    simp only [go_sem, hm] at hA
    simp only [go_sem, hA, e1, e5, hm]
    refine c_split (fun hb => ?_) (fun hb => ?_)
    rotate_left
    · simp only [go_sem, hb, hA, e1, e5, hm]
      obtain rfl := ge_len hb hi
      (try simp only [go_sem, hA, e1, e5, hm]); repeat' (first | (with_reducible first | refine c_split ?_ ?_ | refine w_split ?_ ?_) <;> intro hb <;> try simp only [go_sem, hb, hA, e1, e5, hm] | with_reducible refine hQ _ _ ?_ <;> simp only [Tryz.f126, go_sem, hA, e1, e5, hm])
      exact hk
    have hi := lt_len hb
    have hw := wrap_nat i (by omega)
    have hil : (i : Int) < ((n : Nat) : Int) := Int.ofNat_lt.2 hi
    simp only [go_sem, hb, hA, e1, e5, hm]
    try simp only [go_sem, hA, e1, e5, hm, hil]
    have hg : (marksLot k n)[i]? = some (markLot k i) := by simp [marksLot, hi]
    have w1 : wrap64 (k + 5 * (i : Int) + 1) = k + 5 * i + 1 := by unfold wrap64; omega
    have w2 : wrap64 (k + 5 * (i : Int) + 1 + 1) = k + 5 * i + 2 := by unfold wrap64; omega
    have w3 : wrap64 (k + 5 * (i : Int) + 2 + 1) = k + 5 * i + 3 := by unfold wrap64; omega
    have w4 : wrap64 (k + 5 * (i : Int) + 3 + 1) = k + 5 * i + 4 := by unfold wrap64; omega
    have w5 : wrap64 (k + 5 * (i : Int) + 4 + 1) = k + 5 * ((i + 1 : Nat) : Int) := by unfold wrap64; omega
    (try simp only [go_sem, hA, e1, e5, hm, hil, hg, markLot, BEq.rfl, w1, w2, w3, w4, w5]); repeat' (first | (with_reducible first | refine c_split ?_ ?_ | refine w_split ?_ ?_) <;> intro hb <;> try simp only [go_sem, hb, hA, e1, e5, hm, hil, hg, markLot, BEq.rfl, w1, w2, w3, w4, w5] | fail)
    refine GC.now (hJ _ _ hi (by simp only [go_sem, hA, e1, e5, hm]) ⟨?_, ?_, ?_⟩) <;> try simp only [go_sem, hA, e1, e5, hm, hw]
def markTrade (k : Int) (i : Nat) : Trade := ⟨k + 8 * i, k + 8 * i + 1, k + 8 * i + 2, k + 8 * i + 3, k + 8 * i + 4, k + 8 * i + 5, k + 8 * i + 6, k + 8 * i + 7⟩
def marksTrade (k : Int) (n : Nat) : List Trade := (List.range n).map (markTrade k)
theorem marksTrade_len (k : Int) (n : Nat) : (marksTrade k n).length = n := by simp [marksTrade]
theorem marksTrade_tk (k : Int) (n : Nat) : ((marksTrade k n).map tradeC).take n = (marksTrade k n).map tradeC := List.take_of_length_le (by simp [marksTrade])
theorem c_markTradeS (xs : List Trade) (k : Int) (l g : Nat) (cap : Option Nat) (h0 : AH) (hl : h0[l]? = some (.own g 140 8 cap (xs.map tradeC))) (hn : xs.length ≤ 1000000000) (hk0 : 0 ≤ k) (hk1 : k ≤ 1000000000000)
    (K : AV → AH → Prop) (hk : K (.one (.c (.int .i64 (k + 8 * xs.length)))) (h0.set l (.own g 140 8 cap ((marksTrade k xs.length).map tradeC)))) : ACalls Tryz.prog 122 [.one (.sl l g 0 xs.length), (.one (.c (.int .i64 (k))))] h0 K := by
  have hall : ∀ o, (h0.set l o)[l]? = some o := set_at hl
  refine acall_m Tryz.f122.results.toList mixed Tryz.func122 rfl rfl (by kernel_rfl) ?_
  intro hwf Q hQ
  simp only [go_sem, hl]
  refine for_at (xs.length) [0] (fun i f h => f 1 = (.one (.c (.int .i64 (k + 8 * i)))) ∧ f 5 = (.one (.c (.int .i64 (i)))) ∧ h = h0.set l (.own g 140 8 cap ((fillR (markTrade k) xs i).map tradeC))) (GC.now ?_) ?_
  · simp only [go_sem, nc_0, true_and, hall, hl]
    rw [fill_0, set_same hl]; simp
  · rintro i f h J hi hA ⟨e1, e5, rfl⟩ hJ
    simp only [go_sem, hall, hl] at hA
    simp only [go_sem, hA, e1, e5, hall, hl]
    refine c_split (fun hb => ?_) (fun hb => ?_)
    rotate_left
    · simp only [go_sem, hb, hA, e1, e5, hall, hl]
      obtain rfl := ge_len hb hi
      refine hQ (h0.set l (.own g 140 8 cap ((fillR (markTrade k) xs xs.length).map tradeC))) _ _ ?_; refine GC.now (ret_m (by simp only [go_sem, Tryz.f122, hA, e1, e5, hall, hl]; exact _root_.id rfl) (by simp only [go_sem]) (by simp) (by first | exact hwf | exact wf_set hwf (by simp only [go_sem, hA, e1, e5, hall, hl]) | exact wf_set2 hwf (by simp only [go_sem, hA, e1, e5, hall, hl]) (by simp only [go_sem, hA, e1, e5, hall, hl]) | (simp only [go_sem]; done)) (by first | exact ⟨_, _root_.id rfl⟩ | exact ⟨[], (List.append_nil _).symm⟩) ?_) <;> simp only [go_sem, hA, e1, e5, hall, hl]
      rw [fill_all]
      exact hk
    have hi := lt_len hb
    have hw := wrap_nat i (by omega)
    have hil : (i : Int) < ((xs.length : Nat) : Int) := Int.ofNat_lt.2 hi
    have hg0 : (xs)[i]? = some ((xs)[i]) := List.getElem?_eq_getElem (by omega)
    simp only [go_sem, hb, hA, e1, e5, hall, hl, hg0]
    try simp only [go_sem, hA, e1, e5, hall, hl, hil, hg0]
    have hold := fill_get (markTrade k) xs i
    rw [hg0] at hold
    have hself : ∀ x, ((fillR (markTrade k) xs i).set i x)[i]? = some x := set_at hold
    have hset : (fillR (markTrade k) xs i).set i ⟨k + 8 * i, k + 8 * i + 1, k + 8 * i + 2, k + 8 * i + 3, k + 8 * i + 4, k + 8 * i + 5, k + 8 * i + 6, k + 8 * i + 7⟩ = fillR (markTrade k) xs (i + 1) := fill_set (markTrade k) xs i hi _ rfl
    have w1 : wrap64 (k + 8 * (i : Int) + 1) = k + 8 * i + 1 := by unfold wrap64; omega
    have w2 : wrap64 (k + 8 * (i : Int) + 1 + 1) = k + 8 * i + 2 := by unfold wrap64; omega
    have w3 : wrap64 (k + 8 * (i : Int) + 2 + 1) = k + 8 * i + 3 := by unfold wrap64; omega
    have w4 : wrap64 (k + 8 * (i : Int) + 3 + 1) = k + 8 * i + 4 := by unfold wrap64; omega
    have w5 : wrap64 (k + 8 * (i : Int) + 4 + 1) = k + 8 * i + 5 := by unfold wrap64; omega
    have w6 : wrap64 (k + 8 * (i : Int) + 5 + 1) = k + 8 * i + 6 := by unfold wrap64; omega
    have w7 : wrap64 (k + 8 * (i : Int) + 6 + 1) = k + 8 * i + 7 := by unfold wrap64; omega
    have w8 : wrap64 (k + 8 * (i : Int) + 7 + 1) = k + 8 * ((i + 1 : Nat) : Int) := by unfold wrap64; omega
    (try simp only [go_sem, hA, e1, e5, hall, hl, hil, hg0, hold, hself, List.set_set, w1, w2, w3, w4, w5, w6, w7, w8]); repeat' (first | (with_reducible first | refine c_split ?_ ?_ | refine w_split ?_ ?_) <;> intro hb <;> try simp only [go_sem, hb, hA, e1, e5, hall, hl, hil, hg0, hold, hself, List.set_set, w1, w2, w3, w4, w5, w6, w7, w8] | fail)
    refine GC.now (hJ _ _ hi (by simp only [go_sem, hA, e1, e5, hall, hl]) ⟨?_, ?_, ?_⟩) <;> try simp only [go_sem, hA, e1, e5, hall, hl, hw, hset]
theorem c_heldTradeS (n : Nat) (k : Int) (hn : n ≤ 1000000000) (hk0 : 0 ≤ k) (hk1 : k ≤ 1000000000000) (K : AV → AH → Prop) (hk : K (.one (.c (.int .i64 (k + 8 * n)))) []) : ACalls Tryz.prog 127 [(.one (.im ((marksTrade k n).map tradeC))), (.one (.c (.int .i64 (k))))] [] K := by
  have hm := marksTrade_len k n
  refine acall_c Tryz.f127.results.toList mixed Tryz.func127 rfl rfl (by kernel_rfl) ?_
  intro Q hQ hQO
  simp only [go_sem, BEq.rfl]
  refine for_at (n) [0] (fun i f h => f 1 = (.one (.c (.int .i64 (k + 8 * i)))) ∧ f 5 = (.one (.c (.int .i64 (i)))) ∧ h = []) (GC.now ?_) ?_
  · simp only [go_sem, nc_0, true_and, hm]
    simp
  · rintro i f h J hi hA ⟨e1, e5, rfl⟩ hJ
    simp only [go_sem, hm] at hA
    simp only [go_sem, hA, e1, e5, hm]
    refine c_split (fun hb => ?_) (fun hb => ?_)
    rotate_left
    · simp only [go_sem, hb, hA, e1, e5, hm]
      obtain rfl := ge_len hb hi
      (try simp only [go_sem, hA, e1, e5, hm]); repeat' (first | (with_reducible first | refine c_split ?_ ?_ | refine w_split ?_ ?_) <;> intro hb <;> try simp only [go_sem, hb, hA, e1, e5, hm] | with_reducible refine hQ _ _ ?_ <;> simp only [Tryz.f127, go_sem, hA, e1, e5, hm])
      exact hk
    have hi := lt_len hb
    have hw := wrap_nat i (by omega)
    have hil : (i : Int) < ((n : Nat) : Int) := Int.ofNat_lt.2 hi
    simp only [go_sem, hb, hA, e1, e5, hm]
    try simp only [go_sem, hA, e1, e5, hm, hil]
    have hg : (marksTrade k n)[i]? = some (markTrade k i) := by simp [marksTrade, hi]
    have w1 : wrap64 (k + 8 * (i : Int) + 1) = k + 8 * i + 1 := by unfold wrap64; omega
    have w2 : wrap64 (k + 8 * (i : Int) + 1 + 1) = k + 8 * i + 2 := by unfold wrap64; omega
    have w3 : wrap64 (k + 8 * (i : Int) + 2 + 1) = k + 8 * i + 3 := by unfold wrap64; omega
    have w4 : wrap64 (k + 8 * (i : Int) + 3 + 1) = k + 8 * i + 4 := by unfold wrap64; omega
    have w5 : wrap64 (k + 8 * (i : Int) + 4 + 1) = k + 8 * i + 5 := by unfold wrap64; omega
    have w6 : wrap64 (k + 8 * (i : Int) + 5 + 1) = k + 8 * i + 6 := by unfold wrap64; omega
    have w7 : wrap64 (k + 8 * (i : Int) + 6 + 1) = k + 8 * i + 7 := by unfold wrap64; omega
    have w8 : wrap64 (k + 8 * (i : Int) + 7 + 1) = k + 8 * ((i + 1 : Nat) : Int) := by unfold wrap64; omega
    (try simp only [go_sem, hA, e1, e5, hm, hil, hg, markTrade, BEq.rfl, w1, w2, w3, w4, w5, w6, w7, w8]); repeat' (first | (with_reducible first | refine c_split ?_ ?_ | refine w_split ?_ ?_) <;> intro hb <;> try simp only [go_sem, hb, hA, e1, e5, hm, hil, hg, markTrade, BEq.rfl, w1, w2, w3, w4, w5, w6, w7, w8] | fail)
    refine GC.now (hJ _ _ hi (by simp only [go_sem, hA, e1, e5, hm]) ⟨?_, ?_, ?_⟩) <;> try simp only [go_sem, hA, e1, e5, hm, hw]
def markN (b : Books) (k : Int) : Int := k + 2 * b.accounts.length + 2 * b.instrs.length + 3 * b.bals.length + 5 * b.lots.length + 8 * b.trades.length
theorem app_new {h : AH} {n : Nat} (e : h.length = n) (x : AO) (r : AH) : (h ++ x :: r)[n]? = some x := by subst e; simp
theorem wf_at {h : AH} {n l : Nat} {o : AO} (hw : h.all (ltO n) = true) (ho : ltO n o = true) : (h.set l o).all (ltO n) = true := by
  rw [List.all_eq_true]
  intro x hx
  rcases List.mem_or_eq_of_mem_set hx with hx | rfl
  · exact (List.all_eq_true.1 hw) x hx
  · exact ho
theorem set_other {h : AH} {a b : Nat} {o : AO} {x : Option AO} (hne : a ≠ b) (h1 : h[b]? = x) : (h.set a o)[b]? = x := by rw [List.getElem?_set_ne hne]; exact h1
theorem c_markBooks (b : Books) (hs : Small b) (k : Int) (l0 l1 l2 l3 l4 g0 g1 g2 g3 g4 : Nat) (c0 c1 c2 c3 c4 : Option Nat) (h0 : AH) (e0 : h0[l0]? = some (.own g0 129 2 c0 (b.accounts.map accountC))) (e1 : h0[l1]? = some (.own g1 131 2 c1 (b.instrs.map accountC))) (e2 : h0[l2]? = some (.own g2 134 3 c2 (b.bals.map balC))) (e3 : h0[l3]? = some (.own g3 137 5 c3 (b.lots.map lotC))) (e4 : h0[l4]? = some (.own g4 140 8 c4 (b.trades.map tradeC))) (d01 : l0 ≠ l1) (d02 : l0 ≠ l2) (d03 : l0 ≠ l3) (d04 : l0 ≠ l4) (d12 : l1 ≠ l2) (d13 : l1 ≠ l3) (d14 : l1 ≠ l4) (d23 : l2 ≠ l3) (d24 : l2 ≠ l4) (d34 : l3 ≠ l4) (hk0 : 0 ≤ k) (hk1 : k ≤ 10000000000)
    (K : AV → AH → Prop) (hk : K (.one (.c (.int .i64 (markN b k)))) (((((h0.set l0 (.own g0 129 2 c0 ((marksAccount k b.accounts.length).map accountC))).set l1 (.own g1 131 2 c1 ((marksInstr (k + 2 * b.accounts.length) b.instrs.length).map accountC))).set l2 (.own g2 134 3 c2 ((marksBal ((k + 2 * b.accounts.length) + 2 * b.instrs.length) b.bals.length).map balC))).set l3 (.own g3 137 5 c3 ((marksLot (((k + 2 * b.accounts.length) + 2 * b.instrs.length) + 3 * b.bals.length) b.lots.length).map lotC))).set l4 (.own g4 140 8 c4 ((marksTrade ((((k + 2 * b.accounts.length) + 2 * b.instrs.length) + 3 * b.bals.length) + 5 * b.lots.length) b.trades.length).map tradeC)))) : ACalls Tryz.prog 49 [.agg [.sl l0 g0 0 b.accounts.length, .sl l1 g1 0 b.instrs.length, .sl l2 g2 0 b.bals.length, .sl l3 g3 0 b.lots.length, .sl l4 g4 0 b.trades.length, .c (.int .i64 (b.lot))], (.one (.c (.int .i64 (k))))] h0 K := by
  have t0 := (List.getElem?_eq_some_iff.1 e0).1
  have t1 := (List.getElem?_eq_some_iff.1 e1).1
  have t2 := (List.getElem?_eq_some_iff.1 e2).1
  have t3 := (List.getElem?_eq_some_iff.1 e3).1
  have t4 := (List.getElem?_eq_some_iff.1 e4).1
  have n0 := hs.ha
  have n1 := hs.hi
  have n2 := hs.hb
  have n3 := hs.hl
  have n4 := hs.ht
  refine acall_m Tryz.f49.results.toList mixed Tryz.func49 rfl rfl (by kernel_rfl) ?_
  intro hwf Q hQ
  simp only [go_sem, e0, e1, e2, e3, e4]
  have r0 : h0[l0]? = some (.own g0 129 2 c0 (b.accounts.map accountC)) := e0
  have s0 : l0 < h0.length := (List.getElem?_eq_some_iff.1 r0).1
  refine call_h (c_markAccountS b.accounts k l0 g0 c0 _ (h_old _ r0) n0 (by omega) (by omega) _ ?_)
  simp only [go_sem, List.set_append_left _ _ s0]
  have w1 := fun x r => app_new (h := (h0.set l0 (.own g0 129 2 c0 ((marksAccount k b.accounts.length).map accountC)))) (n := h0.length) (by simp only [List.length_set]) x r
  (try simp only [go_sem, w1]); repeat' (first | (with_reducible first | refine c_split ?_ ?_ | refine w_split ?_ ?_) <;> intro hb <;> try simp only [go_sem, hb, w1] | fail)
  have r1 : (h0.set l0 (.own g0 129 2 c0 ((marksAccount k b.accounts.length).map accountC)))[l1]? = some (.own g1 131 2 c1 (b.instrs.map accountC)) := (set_other d01 e1)
  have s1 : l1 < (h0.set l0 (.own g0 129 2 c0 ((marksAccount k b.accounts.length).map accountC))).length := (List.getElem?_eq_some_iff.1 r1).1
  refine call_h (c_markInstrS b.instrs (k + 2 * b.accounts.length) l1 g1 c1 _ (h_old _ r1) n1 (by omega) (by omega) _ ?_)
  simp only [go_sem, List.set_append_left _ _ s1]
  have w2 := fun x r => app_new (h := ((h0.set l0 (.own g0 129 2 c0 ((marksAccount k b.accounts.length).map accountC))).set l1 (.own g1 131 2 c1 ((marksInstr (k + 2 * b.accounts.length) b.instrs.length).map accountC)))) (n := h0.length) (by simp only [List.length_set]) x r
  (try simp only [go_sem, w2]); repeat' (first | (with_reducible first | refine c_split ?_ ?_ | refine w_split ?_ ?_) <;> intro hb <;> try simp only [go_sem, hb, w2] | fail)
  have r2 : ((h0.set l0 (.own g0 129 2 c0 ((marksAccount k b.accounts.length).map accountC))).set l1 (.own g1 131 2 c1 ((marksInstr (k + 2 * b.accounts.length) b.instrs.length).map accountC)))[l2]? = some (.own g2 134 3 c2 (b.bals.map balC)) := (set_other d12 (set_other d02 e2))
  have s2 : l2 < ((h0.set l0 (.own g0 129 2 c0 ((marksAccount k b.accounts.length).map accountC))).set l1 (.own g1 131 2 c1 ((marksInstr (k + 2 * b.accounts.length) b.instrs.length).map accountC))).length := (List.getElem?_eq_some_iff.1 r2).1
  refine call_h (c_markBalS b.bals ((k + 2 * b.accounts.length) + 2 * b.instrs.length) l2 g2 c2 _ (h_old _ r2) n2 (by omega) (by omega) _ ?_)
  simp only [go_sem, List.set_append_left _ _ s2]
  have w3 := fun x r => app_new (h := (((h0.set l0 (.own g0 129 2 c0 ((marksAccount k b.accounts.length).map accountC))).set l1 (.own g1 131 2 c1 ((marksInstr (k + 2 * b.accounts.length) b.instrs.length).map accountC))).set l2 (.own g2 134 3 c2 ((marksBal ((k + 2 * b.accounts.length) + 2 * b.instrs.length) b.bals.length).map balC)))) (n := h0.length) (by simp only [List.length_set]) x r
  (try simp only [go_sem, w3]); repeat' (first | (with_reducible first | refine c_split ?_ ?_ | refine w_split ?_ ?_) <;> intro hb <;> try simp only [go_sem, hb, w3] | fail)
  have r3 : (((h0.set l0 (.own g0 129 2 c0 ((marksAccount k b.accounts.length).map accountC))).set l1 (.own g1 131 2 c1 ((marksInstr (k + 2 * b.accounts.length) b.instrs.length).map accountC))).set l2 (.own g2 134 3 c2 ((marksBal ((k + 2 * b.accounts.length) + 2 * b.instrs.length) b.bals.length).map balC)))[l3]? = some (.own g3 137 5 c3 (b.lots.map lotC)) := (set_other d23 (set_other d13 (set_other d03 e3)))
  have s3 : l3 < (((h0.set l0 (.own g0 129 2 c0 ((marksAccount k b.accounts.length).map accountC))).set l1 (.own g1 131 2 c1 ((marksInstr (k + 2 * b.accounts.length) b.instrs.length).map accountC))).set l2 (.own g2 134 3 c2 ((marksBal ((k + 2 * b.accounts.length) + 2 * b.instrs.length) b.bals.length).map balC))).length := (List.getElem?_eq_some_iff.1 r3).1
  refine call_h (c_markLotS b.lots (((k + 2 * b.accounts.length) + 2 * b.instrs.length) + 3 * b.bals.length) l3 g3 c3 _ (h_old _ r3) n3 (by omega) (by omega) _ ?_)
  simp only [go_sem, List.set_append_left _ _ s3]
  have w4 := fun x r => app_new (h := ((((h0.set l0 (.own g0 129 2 c0 ((marksAccount k b.accounts.length).map accountC))).set l1 (.own g1 131 2 c1 ((marksInstr (k + 2 * b.accounts.length) b.instrs.length).map accountC))).set l2 (.own g2 134 3 c2 ((marksBal ((k + 2 * b.accounts.length) + 2 * b.instrs.length) b.bals.length).map balC))).set l3 (.own g3 137 5 c3 ((marksLot (((k + 2 * b.accounts.length) + 2 * b.instrs.length) + 3 * b.bals.length) b.lots.length).map lotC)))) (n := h0.length) (by simp only [List.length_set]) x r
  (try simp only [go_sem, w4]); repeat' (first | (with_reducible first | refine c_split ?_ ?_ | refine w_split ?_ ?_) <;> intro hb <;> try simp only [go_sem, hb, w4] | fail)
  have r4 : ((((h0.set l0 (.own g0 129 2 c0 ((marksAccount k b.accounts.length).map accountC))).set l1 (.own g1 131 2 c1 ((marksInstr (k + 2 * b.accounts.length) b.instrs.length).map accountC))).set l2 (.own g2 134 3 c2 ((marksBal ((k + 2 * b.accounts.length) + 2 * b.instrs.length) b.bals.length).map balC))).set l3 (.own g3 137 5 c3 ((marksLot (((k + 2 * b.accounts.length) + 2 * b.instrs.length) + 3 * b.bals.length) b.lots.length).map lotC)))[l4]? = some (.own g4 140 8 c4 (b.trades.map tradeC)) := (set_other d34 (set_other d24 (set_other d14 (set_other d04 e4))))
  have s4 : l4 < ((((h0.set l0 (.own g0 129 2 c0 ((marksAccount k b.accounts.length).map accountC))).set l1 (.own g1 131 2 c1 ((marksInstr (k + 2 * b.accounts.length) b.instrs.length).map accountC))).set l2 (.own g2 134 3 c2 ((marksBal ((k + 2 * b.accounts.length) + 2 * b.instrs.length) b.bals.length).map balC))).set l3 (.own g3 137 5 c3 ((marksLot (((k + 2 * b.accounts.length) + 2 * b.instrs.length) + 3 * b.bals.length) b.lots.length).map lotC))).length := (List.getElem?_eq_some_iff.1 r4).1
  refine call_h (c_markTradeS b.trades ((((k + 2 * b.accounts.length) + 2 * b.instrs.length) + 3 * b.bals.length) + 5 * b.lots.length) l4 g4 c4 _ (h_old _ r4) n4 (by omega) (by omega) _ ?_)
  simp only [go_sem, List.set_append_left _ _ s4]
  have hwf : (((((h0.set l0 (.own g0 129 2 c0 ((marksAccount k b.accounts.length).map accountC))).set l1 (.own g1 131 2 c1 ((marksInstr (k + 2 * b.accounts.length) b.instrs.length).map accountC))).set l2 (.own g2 134 3 c2 ((marksBal ((k + 2 * b.accounts.length) + 2 * b.instrs.length) b.bals.length).map balC))).set l3 (.own g3 137 5 c3 ((marksLot (((k + 2 * b.accounts.length) + 2 * b.instrs.length) + 3 * b.bals.length) b.lots.length).map lotC))).set l4 (.own g4 140 8 c4 ((marksTrade ((((k + 2 * b.accounts.length) + 2 * b.instrs.length) + 3 * b.bals.length) + 5 * b.lots.length) b.trades.length).map tradeC))).all (ltO h0.length) = true := (wf_at (wf_at (wf_at (wf_at (wf_at hwf (by simp only [go_sem])) (by simp only [go_sem])) (by simp only [go_sem])) (by simp only [go_sem])) (by simp only [go_sem]))
  refine hQ ((((((h0.set l0 (.own g0 129 2 c0 ((marksAccount k b.accounts.length).map accountC))).set l1 (.own g1 131 2 c1 ((marksInstr (k + 2 * b.accounts.length) b.instrs.length).map accountC))).set l2 (.own g2 134 3 c2 ((marksBal ((k + 2 * b.accounts.length) + 2 * b.instrs.length) b.bals.length).map balC))).set l3 (.own g3 137 5 c3 ((marksLot (((k + 2 * b.accounts.length) + 2 * b.instrs.length) + 3 * b.bals.length) b.lots.length).map lotC))).set l4 (.own g4 140 8 c4 ((marksTrade ((((k + 2 * b.accounts.length) + 2 * b.instrs.length) + 3 * b.bals.length) + 5 * b.lots.length) b.trades.length).map tradeC)))) _ _ ?_; refine GC.now (ret_m (by simp only [go_sem, Tryz.f49]; exact _root_.id rfl) (by simp only [go_sem]) (by simp) (by first | exact hwf | exact wf_set hwf (by simp only [go_sem]) | exact wf_set2 hwf (by simp only [go_sem]) (by simp only [go_sem]) | (simp only [go_sem]; done)) (by first | exact ⟨_, _root_.id rfl⟩ | exact ⟨[], (List.append_nil _).symm⟩) ?_) <;> simp only [go_sem]
  exact hk
end Go.Proofs.YtlefjpbhbiajfaaGreat
end
section
namespace Go.Proofs.YtlefjpbhbiajfaaGreat
open Go.BL Go.RowKit
set_option linter.unusedVariables false
set_option linter.unusedSimpArgs false
set_option maxRecDepth 100000
attribute [local go_sem] accountC balC lotC tradeC booksC booksA fileC diskC engC
theorem c_szEngine (e : Eng) (h : LargeE e) (K : AV → AH → Prop) (hk : ∀ r, (0 ≤ r → SmallE e) → K (.one (.c (.int .i64 (r)))) []) : ACalls Tryz.prog 16 [.agg (engC e), (.one (.c (.int .i64 (1048576))))] [] K := by
  refine acall_c Tryz.f16.results.toList mixed Tryz.func16 rfl rfl (by kernel_rfl) ?_
  intro Q hQ hQO
  simp only [go_sem]
  (try simp only [go_sem]); repeat' (first | (with_reducible first | refine c_split ?_ ?_ | refine w_split ?_ ?_) <;> intro hb <;> try simp only [go_sem, hb] | refine call_c (c_szDisk e.disk _ h.hz h.hn (by decide) (by decide) _ (fun r1 hr1 => ?_)) <;> try simp only [go_sem] | fail)
  · (try simp only [go_sem]); repeat' (first | (with_reducible first | refine c_split ?_ ?_ | refine w_split ?_ ?_) <;> intro hb <;> try simp only [go_sem, hb] | with_reducible refine hQ _ _ ?_ <;> simp only [Tryz.f16, go_sem])
    exact hk _ (fun q => by omega)
  have h1 := of_decide_eq_false hb
  have h2 := hr1 (by omega)
  have h3 := roomTo_nonneg e.disk.files e.disk.files.length
  have hn : e.disk.files.length ≤ 1000000000 := by omega
  clear hb
  (try simp only [go_sem]); repeat' (first | (with_reducible first | refine c_split ?_ ?_ | refine w_split ?_ ?_) <;> intro hb <;> try simp only [go_sem, hb] | refine call_c (c_szBooksG e.books h.hb r1 (by omega) (by omega) _ (fun r2 hr2 => ?_)) <;> try simp only [go_sem] | fail)
  · (try simp only [go_sem]); repeat' (first | (with_reducible first | refine c_split ?_ ?_ | refine w_split ?_ ?_) <;> intro hb <;> try simp only [go_sem, hb] | with_reducible refine hQ _ _ ?_ <;> simp only [Tryz.f16, go_sem])
    exact hk _ (fun q => by omega)
  · (try simp only [go_sem]); repeat' (first | (with_reducible first | refine c_split ?_ ?_ | refine w_split ?_ ?_) <;> intro hb <;> try simp only [go_sem, hb] | with_reducible refine hQ _ _ ?_ <;> simp only [Tryz.f16, go_sem])
    exact hk _ (fun q => ⟨hn, hr2 q⟩)
def engA (e : Eng) : AV := .agg [.c (.bool (e.up)), .c (.int .i64 (e.disk.room)), .sl 0 0 0 e.disk.files.length, .sl 1 0 0 e.books.accounts.length, .sl 2 0 0 e.books.instrs.length, .sl 3 0 0 e.books.bals.length, .sl 4 0 0 e.books.lots.length, .sl 5 0 0 e.books.trades.length, .c (.int .i64 (e.books.lot)), .c (.int .i64 (e.seg)), .c (.int .i64 (e.count))]
theorem c_toEngine (e : Eng) (hs : SmallE e) (K : AV → AH → Prop) (hk : K (engA e) [.own 0 125 3 (some e.disk.files.length) (e.disk.files.map fileC), .own 0 129 2 (some e.books.accounts.length) (e.books.accounts.map accountC), .own 0 131 2 (some e.books.instrs.length) (e.books.instrs.map accountC), .own 0 134 3 (some e.books.bals.length) (e.books.bals.map balC), .own 0 137 5 (some e.books.lots.length) (e.books.lots.map lotC), .own 0 140 8 (some e.books.trades.length) (e.books.trades.map tradeC)]) : ACalls Tryz.prog 18 [.agg (engC e)] [] K := by
  refine acall_c Tryz.f18.results.toList mixed Tryz.func18 rfl rfl (by kernel_rfl) ?_
  intro Q hQ hQO
  simp only [go_sem]
  (try simp only [go_sem]); repeat' (first | (with_reducible first | refine c_split ?_ ?_ | refine w_split ?_ ?_) <;> intro hb <;> try simp only [go_sem, hb] | (first | refine call_c (c_toDisk e.disk hs.hn _ ?_) | refine call_c (c_toBooks e.books hs.hb _ ?_) | fail) <;> try simp only [go_sem] | fail)
  refine hQO [3, 4, 5, 6, 7, 8] _ _ (GC.now ?_) <;> simp only [Tryz.f18, go_sem, List.nodup_cons, List.nodup_nil, List.mem_cons, List.not_mem_nil, or_false, not_false_eq_true, List.idxOf?_cons, List.idxOf?_nil, Option.map_none]
  exact hk
theorem c_eqEngine (e : Eng) (hs : SmallE e) (K : AV → AH → Prop) (hk : K (.one (.c (.bool (true)))) []) : ACalls Tryz.prog 13 [.agg (engC e), .agg (engC e)] [] K := by
  have hu : (e.up == e.up) = true := BEq.rfl
  refine acall_c Tryz.f13.results.toList mixed Tryz.func13 rfl rfl (by kernel_rfl) ?_
  intro Q hQ hQO
  simp only [go_sem]
  (try simp only [go_sem, BEq.rfl, bne_self_eq_false, hu]); repeat' (first | (with_reducible first | refine c_split ?_ ?_ | refine w_split ?_ ?_) <;> intro hb <;> try simp only [go_sem, hb, BEq.rfl, bne_self_eq_false, hu] | (first | refine call_c (c_eqDisk e.disk hs.hn _ ?_) | refine call_c (c_eqBooks e.books hs.hb _ ?_) | fail) <;> try simp only [go_sem, BEq.rfl, bne_self_eq_false, hu] | with_reducible refine hQ _ _ ?_ <;> simp only [Tryz.f13, go_sem, BEq.rfl, bne_self_eq_false, hu])
  exact hk
end Go.Proofs.YtlefjpbhbiajfaaGreat
end
section
namespace Go.Proofs.YtlefjpbhbiajfaaGreat
open Go.BL Go.RowKit
set_option linter.unusedVariables false
set_option linter.unusedSimpArgs false
set_option maxRecDepth 100000
attribute [local go_sem] accountC balC lotC tradeC booksC booksA fileC diskC engC
def noE : Eng := ⟨false, ⟨0, []⟩, ⟨[], [], [], [], [], 0⟩, 0, 0⟩
def ownE (e : Eng) : AH := [.own 0 125 3 none (e.disk.files.map fileC), .own 0 129 2 none (e.books.accounts.map accountC), .own 0 131 2 none (e.books.instrs.map accountC), .own 0 134 3 none (e.books.bals.map balC), .own 0 137 5 none (e.books.lots.map lotC), .own 0 140 8 none (e.books.trades.map tradeC)]
end Go.Proofs.YtlefjpbhbiajfaaGreat
end
section
namespace Go.Proofs.YtlefjpbhbiajfaaGreat
open Go.BL Go.RowKit
set_option linter.unusedVariables false
set_option linter.unusedSimpArgs false
set_option maxRecDepth 100000
theorem d43_0_LCrashI : DrawL Tryz.prog 0 28 (.on [(0, true, true), (2, true, true), (3, true, true), (4, true, true), (1, false, false), (5, false, false), (6, false, true)] .nil) := draw_L
theorem d43_1_LCrashI : DrawL Tryz.prog 0 34 (.on [(0, true, true), (1, true, true), (2, true, false), (3, true, false), (4, true, false), (5, true, false), (6, true, false), (7, true, false), (8, false, false), (9, false, false), (10, false, false), (11, false, false), (12, false, false), (13, false, false), (14, false, true), (15, false, true)] .nil) := draw_L
theorem d44_0_LCrashI : DrawL Tryz.prog 0 22 (.on [(0, true, true), (1, true, true), (2, true, false), (3, true, false), (4, true, false), (5, true, false), (6, true, false), (7, true, false), (8, true, false), (9, true, false), (10, false, false), (11, false, false), (12, false, false), (13, false, false), (14, false, false), (15, false, false), (16, false, false), (17, false, false), (18, false, true), (19, false, true)] .nil) := draw_L
attribute [local go_sem] fileC diskC fileC_len diskR
theorem c_l1Max (a b : Int) (K : AV → AH → Prop) (hk : K (.one (.c (.int .i64 (max a b)))) []) : ACalls Tryz.prog 102 [(.one (.c (.int .i64 (a)))), (.one (.c (.int .i64 (b))))] [] K := by
  refine acall_c Tryz.f102.results.toList mixed Tryz.func102 rfl rfl (by kernel_rfl) ?_
  intro Q hQ hQO
  simp only [go_sem]
  (try simp only [go_sem]); repeat' (first | (with_reducible first | refine c_split ?_ ?_ | refine w_split ?_ ?_) <;> intro hb <;> try simp only [go_sem, hb] | with_reducible refine hQ _ _ ?_ <;> simp only [Tryz.f102, go_sem])
  · have h := of_decide_eq_true hb
    rw [show max a b = a by omega] at hk; exact hk
  · have h := of_decide_eq_false hb
    rw [show max a b = b by omega] at hk; exact hk
theorem c_l1Min (a b : Int) (K : AV → AH → Prop) (hk : K (.one (.c (.int .i64 (min a b)))) []) : ACalls Tryz.prog 101 [(.one (.c (.int .i64 (a)))), (.one (.c (.int .i64 (b))))] [] K := by
  refine acall_c Tryz.f101.results.toList mixed Tryz.func101 rfl rfl (by kernel_rfl) ?_
  intro Q hQ hQO
  simp only [go_sem]
  (try simp only [go_sem]); repeat' (first | (with_reducible first | refine c_split ?_ ?_ | refine w_split ?_ ?_) <;> intro hb <;> try simp only [go_sem, hb] | with_reducible refine hQ _ _ ?_ <;> simp only [Tryz.f101, go_sem])
  · have h := of_decide_eq_true hb
    rw [show min a b = a by omega] at hk; exact hk
  · have h := of_decide_eq_false hb
    rw [show min a b = b by omega] at hk; exact hk
def keepN (keep : Int) (f : File) : Int := min (max keep 0) (f.late.size : Int)
def crashF (keep : Int) (f : File) : File := ⟨f.name, f.safe ++ f.late.extract 0 (keepN keep f).toNat, ⟨#[]⟩⟩
def crashR (d : Disk) (keep : Int) : Disk := if diskOk d = true then ⟨d.room, d.files.map (crashF keep)⟩ else ⟨0, []⟩
theorem keep_ok (keep : Int) (f : File) : 0 ≤ keepN keep f ∧ (keepN keep f).toNat ≤ f.late.size := by unfold keepN; omega
theorem c_spec_DiskCrash (d : Disk) (keep : Int) (hn : d.files.length ≤ 1000000000) (hz : SmallF d.files) (K : AV → AH → Prop) (hk : K (.agg (diskC (crashR d keep))) []) : ACalls Tryz.prog 43 [.agg (diskC d), (.one (.c (.int .i64 (keep))))] [] K := by
  refine acall_c Tryz.f43.results.toList mixed Tryz.func43 rfl rfl (by kernel_rfl) ?_
  intro Q hQ hQO
  simp only [go_sem]
  (try simp only [go_sem]); repeat' (first | (with_reducible first | refine c_split ?_ ?_ | refine w_split ?_ ?_ | refine tw_split ?_ ?_) <;> intro hb <;> try simp only [go_sem, hb] | (first | with_reducible refine d43_0_LCrashI (by with_unfolding_all rfl) (by kernel_rfl) ?_ | with_reducible refine d43_1_LCrashI (by with_unfolding_all rfl) (by kernel_rfl) ?_ | refine call_c (c_spec_DiskOk d hn _ ?_) | fail) <;> try simp only [go_sem] | fail)
  · rw [crashR, if_neg (by simpa using hb)] at hk
    (try simp only [go_sem]); repeat' (first | (with_reducible first | refine c_split ?_ ?_ | refine w_split ?_ ?_ | refine tw_split ?_ ?_) <;> intro hb <;> try simp only [go_sem, hb] | (first | with_reducible refine d43_0_LCrashI (by with_unfolding_all rfl) (by kernel_rfl) ?_ | with_reducible refine d43_1_LCrashI (by with_unfolding_all rfl) (by kernel_rfl) ?_ | fail) <;> try simp only [go_sem] | with_reducible refine hQ _ _ ?_ <;> simp only [Tryz.f43, go_sem])
    exact hk
  rw [crashR, if_pos (by simpa using hb)] at hk
  refine for_at (d.files.length) [1, 2, 4, 5] (fun i f h => f 6 = (.one (.c (.int .i64 (i)))) ∧ h = [.own 0 24 2 (some 1) [diskC d], .own 0 24 2 (some 1) [[.c (.int .i64 (0)), .nl]], .own 0 24 2 (some 1) [[.c (.int .i64 (d.room)), .sl 3 i 0 i]], .own i 125 3 none (((d.files.take i).map (crashF keep)).map fileC)]) (GC.step (Ghost.nlc (l := 2) rfl 0 1 rfl rfl 125 3) (GC.now ?_)) ?_
  · simp only [go_sem, nc_0, true_and]
    skip
  · rintro i f h J hi hA ⟨e6, rfl⟩ hJ
    simp only [go_sem] at hA
    simp only [go_sem, hA, e6]
    refine c_split (fun hb => ?_) (fun hb => ?_)
    rotate_left
    · simp only [go_sem, hb, hA, e6]
      obtain rfl := ge_len hb hi
      have htk : List.take d.files.length (List.map fileC (d.files.map (crashF keep))) = List.map fileC (d.files.map (crashF keep)) := List.take_of_length_le (by simp)
      (try simp only [go_sem, hA, e6, List.take_length, htk]); repeat' (first | (with_reducible first | refine c_split ?_ ?_ | refine w_split ?_ ?_ | refine tw_split ?_ ?_) <;> intro hb <;> try simp only [go_sem, hb, hA, e6, List.take_length, htk] | (first | with_reducible refine d43_0_LCrashI (by with_unfolding_all rfl) (by kernel_rfl) ?_ | with_reducible refine d43_1_LCrashI (by with_unfolding_all rfl) (by kernel_rfl) ?_ | fail) <;> try simp only [go_sem, hA, e6, List.take_length, htk] | with_reducible refine hQ _ _ ?_ <;> simp only [Tryz.f43, go_sem, hA, e6, List.take_length, htk])
      exact hk
    have hi := lt_len hb
    have hw := wrap_nat i (by omega)
    have hil : (i : Int) < ((d.files.length : Nat) : Int) := Int.ofNat_lt.2 hi
    have hg0 : (d.files)[i]? = some ((d.files)[i]) := List.getElem?_eq_getElem (by omega)
    simp only [go_sem, hb, hA, e6, hg0]
    try simp only [go_sem, hA, e6, hil, hg0]
    have hk1 := keep_ok keep d.files[i]
    have hk0 := hk1.1
    have hk2 := hk1.2
    have hcr : (d.files.take (i + 1)).map (crashF keep) = (d.files.take i).map (crashF keep) ++ [⟨d.files[i].name, d.files[i].safe ++ d.files[i].late.extract 0 (keepN keep d.files[i]).toNat, ⟨#[]⟩⟩] := by rw [List.take_succ_eq_append_getElem hi, List.map_append]; rfl
    have hfs := file_small hz hi
    have hli : (d.files.take i).length = i := by simp; omega
    have hkn : min (max keep 0) (d.files[i].late.size : Int) = keepN keep d.files[i] := rfl
    have hsz : d.files[i].safe.size + (d.files[i].late.extract 0 (keepN keep d.files[i]).toNat).size ≤ 9223372036854775807 := by rw [ByteArray.size_extract]; omega
    (try simp only [go_sem, hA, e6, hil, hg0, hkn, hk0, hk2, hsz, Nat.zero_le]); repeat' (first | (with_reducible first | refine c_split ?_ ?_ | refine w_split ?_ ?_ | refine tw_split ?_ ?_) <;> intro hb <;> try simp only [go_sem, hb, hA, e6, hil, hg0, hkn, hk0, hk2, hsz, Nat.zero_le] | (first | with_reducible refine d43_0_LCrashI (by with_unfolding_all rfl) (by kernel_rfl) ?_ | with_reducible refine d43_1_LCrashI (by with_unfolding_all rfl) (by kernel_rfl) ?_ | refine call_c (c_l1Max keep 0 _ ?_) | refine call_c (c_l1Min (max keep 0) d.files[i].late.size _ ?_) | fail) <;> try simp only [go_sem, hA, e6, hil, hg0, hkn, hk0, hk2, hsz, Nat.zero_le] | fail)
    refine ap_end rfl (by simp; omega) (by simp; omega) ?_
    (try simp only [go_sem, hA, e6, hil, hg0, hli]); repeat' (first | (with_reducible first | refine c_split ?_ ?_ | refine w_split ?_ ?_ | refine tw_split ?_ ?_) <;> intro hb <;> try simp only [go_sem, hb, hA, e6, hil, hg0, hli] | (first | with_reducible refine d43_0_LCrashI (by with_unfolding_all rfl) (by kernel_rfl) ?_ | with_reducible refine d43_1_LCrashI (by with_unfolding_all rfl) (by kernel_rfl) ?_ | fail) <;> try simp only [go_sem, hA, e6, hil, hg0, hli] | fail)
    refine gc_trim 4 (by decide) (by simp only [go_sem]) (by simp only [go_sem]) (hJ _ _ hi (by simp only [go_sem, hA, e6]) ⟨?_, ?_⟩) <;> try simp only [go_sem, hA, e6, hw, hcr, hli]
def crashTo (keep : Int) (fs : List File) (i : Nat) : List File := (fs.map (crashF keep)).take i ++ fs.drop i
theorem crashTo_n (keep : Int) (fs : List File) : crashTo keep fs fs.length = fs.map (crashF keep) := by
  rw [crashTo, List.drop_length, List.append_nil, List.take_of_length_le (by simp)]
theorem crashTo_len (keep : Int) (fs : List File) (i : Nat) : (crashTo keep fs i).length = fs.length := by simp [crashTo]; omega
theorem crashTo_s (keep : Int) (fs : List File) (i : Nat) (hi : i < fs.length) : (crashTo keep fs i).set i ⟨fs[i].name, fs[i].safe ++ fs[i].late.extract 0 (keepN keep fs[i]).toNat, ⟨#[]⟩⟩ = crashTo keep fs (i + 1) := by
  have h1 : ((fs.map (crashF keep)).take i).length = i := by simp; omega
  have h2 : (fs.map (crashF keep)).take (i + 1) = (fs.map (crashF keep)).take i ++ [crashF keep fs[i]] := by
    rw [List.take_succ_eq_append_getElem (by simpa using hi), List.getElem_map]
  rw [crashTo, crashTo, List.set_append_right _ _ (by omega), h1, Nat.sub_self, List.drop_eq_getElem_cons hi, List.set_cons_zero, h2, List.append_assoc]
  rfl
theorem crashTo_get (keep : Int) (fs : List File) (i : Nat) (hi : i < fs.length) : (crashTo keep fs i)[i]? = some fs[i] := by
  have h1 : ((fs.map (crashF keep)).take i).length = i := by simp; omega
  rw [crashTo, List.getElem?_append_right (by omega), h1, Nat.sub_self, List.drop_eq_getElem_cons hi]; rfl
theorem keep_mm (keep : Int) (f : File) : (if 0 < (if (f.late.size : Int) < keep then (f.late.size : Int) else keep) then (if (f.late.size : Int) < keep then (f.late.size : Int) else keep) else 0) = keepN keep f := by
  unfold keepN; split <;> split <;> omega
theorem c_impl_DiskCrash (d : Disk) (keep : Int) (hn : d.files.length ≤ 1000000000) (hz : SmallF d.files) (K : AV → AH → Prop)
    (hk : K (.agg [.c (.int .i64 ((crashR d keep).room)), .sl 0 0 0 (crashR d keep).files.length]) [.own 0 125 3 none ((crashR d keep).files.map fileC)]) : ACalls Tryz.prog 44 [.agg (diskC d), (.one (.c (.int .i64 (keep))))] [] K := by
  refine acall_c Tryz.f44.results.toList mixed Tryz.func44 rfl rfl (by kernel_rfl) ?_
  intro Q hQ hQO
  simp only [go_sem]
  (try simp only [go_sem]); repeat' (first | (with_reducible first | refine c_split ?_ ?_ | refine w_split ?_ ?_ | refine tw_split ?_ ?_) <;> intro hb <;> try simp only [go_sem, hb] | (first | with_reducible refine d44_0_LCrashI (by with_unfolding_all rfl) (by kernel_rfl) ?_ | refine call_c (c_impl_DiskOk d hn _ ?_) | refine call_c (c_cloneDisk d hn _ (fun cap => ?_)) | fail) <;> try simp only [go_sem] | fail)
  · refine hQO [2] _ _ (GC.step (Ghost.nlc (l := 1) rfl 0 1 rfl rfl 125 3) (GC.now ?_)) <;> simp only [Tryz.f44, go_sem, List.nodup_cons, List.nodup_nil, List.mem_cons, List.not_mem_nil, or_false, not_false_eq_true, List.idxOf?_cons, List.idxOf?_nil, Option.map_none]
    rw [crashR, if_neg (fun q => by simp [q] at hb)] at hk
    exact hk
  · rw [crashR, if_pos (by simpa using hb)] at hk
    refine for_at (d.files.length) [1, 4, 5, 15, 16] (fun i f h => f 17 = (.one (.c (.int .i64 (i)))) ∧ h = [.own 0 24 2 (some 1) [diskC d], .own 0 24 2 (some 1) [[.c (.int .i64 (0)), .nl]], .own 0 125 3 cap ((crashTo keep d.files i).map fileC), .own 0 24 2 (some 1) [[.c (.int .i64 (d.room)), .sl 2 0 0 d.files.length]]]) (GC.now ?_) ?_
    · simp only [go_sem, nc_0, true_and]
      rfl
    · rintro i f h J hi hA ⟨e17, rfl⟩ hJ
      simp only [go_sem] at hA
      simp only [go_sem, hA, e17]
      refine c_split (fun hb => ?_) (fun hb => ?_)
      rotate_left
      · simp only [go_sem, hb, hA, e17]
        obtain rfl := ge_len hb hi
        have hcn := crashTo_n keep d.files
        have htk : List.take d.files.length (List.map fileC (d.files.map (crashF keep))) = List.map fileC (d.files.map (crashF keep)) := List.take_of_length_le (by simp)
        have hlm : (d.files.map (crashF keep)).length = d.files.length := by simp
        simp only [hlm] at hk
        (try simp only [go_sem, hA, e17, hcn]); repeat' (first | (with_reducible first | refine c_split ?_ ?_ | refine w_split ?_ ?_ | refine tw_split ?_ ?_) <;> intro hb <;> try simp only [go_sem, hb, hA, e17, hcn] | with_reducible refine d44_0_LCrashI (by with_unfolding_all rfl) (by kernel_rfl) ?_ <;> try simp only [go_sem, hA, e17, hcn] | fail)
        refine hQO [2] _ _ (GC.step (Ghost.cut (l := 2) rfl d.files.length) (GC.now ?_)) <;> simp only [Tryz.f44, go_sem, List.nodup_cons, List.nodup_nil, List.mem_cons, List.not_mem_nil, or_false, not_false_eq_true, List.idxOf?_cons, List.idxOf?_nil, Option.map_none, hA, e17, hcn, htk]
        exact hk
      have hi := lt_len hb
      have hw := wrap_nat i (by omega)
      have hil : (i : Int) < ((d.files.length : Nat) : Int) := Int.ofNat_lt.2 hi
      have hg0 : (d.files)[i]? = some ((d.files)[i]) := List.getElem?_eq_getElem (by omega)
      simp only [go_sem, hb, hA, e17, hg0]
      try simp only [go_sem, hA, e17, hil, hg0]
      have hk1 := keep_ok keep d.files[i]
      have hk0 := hk1.1
      have hk2 := hk1.2
      have hmm := keep_mm keep d.files[i]
      have hcs := crashTo_s keep d.files i hi
      have hcg := crashTo_get keep d.files i hi
      have hcl := crashTo_len keep d.files i
      have hfs := file_small hz hi
      have hsz : d.files[i].safe.size + (d.files[i].late.extract 0 (keepN keep d.files[i]).toNat).size ≤ 9223372036854775807 := by rw [ByteArray.size_extract]; omega
      (try simp only [go_sem, hA, e17, hil, hg0, hmm, hk0, hk2, hsz, Nat.zero_le, hcl, hcs, hcg, hi]); repeat' (first | (with_reducible first | refine c_split ?_ ?_ | refine w_split ?_ ?_ | refine tw_split ?_ ?_) <;> intro hb <;> try simp only [go_sem, hb, hA, e17, hil, hg0, hmm, hk0, hk2, hsz, Nat.zero_le, hcl, hcs, hcg, hi] | with_reducible refine d44_0_LCrashI (by with_unfolding_all rfl) (by kernel_rfl) ?_ <;> try simp only [go_sem, hA, e17, hil, hg0, hmm, hk0, hk2, hsz, Nat.zero_le, hcl, hcs, hcg, hi] | fail)
      refine gc_trim 4 (by decide) (by simp only [go_sem]) (by simp only [go_sem]) (hJ _ _ hi (by simp only [go_sem, hA, e17]) ⟨?_, ?_⟩) <;> try simp only [go_sem, hA, e17, hw, hcs]
end Go.Proofs.YtlefjpbhbiajfaaGreat
end
section
namespace Go.Proofs.YtlefjpbhbiajfaaGreat
open Go.BL Go.RowKit
set_option linter.unusedVariables false
set_option linter.unusedSimpArgs false
set_option maxRecDepth 100000
theorem d138_0_LCopy : DrawL Tryz.prog 0 3 (.on [(0, true, true), (1, true, true), (3, true, false), (4, true, false), (6, true, false), (7, true, false), (9, true, false), (10, true, false), (12, true, false), (13, true, false), (15, true, false), (16, true, false), (2, false, false), (5, false, false), (8, false, false), (11, false, false), (14, false, false), (17, false, false), (18, false, true)] .nil) := draw_L
theorem d54_0_LCopy : DrawL Tryz.prog 0 3 (.on [(0, true, true), (1, true, true), (3, true, false), (4, true, false), (2, false, false), (6, true, true), (5, false, false), (7, false, true), (8, false, true), (9, false, true)] .nil) := draw_L
theorem d90_0_LCopy : DrawL Tryz.prog 0 3 (.on [(0, true, true), (1, true, true), (2, true, false), (3, true, false), (5, true, false), (6, true, false), (8, true, false), (9, true, false), (10, true, false), (11, true, false), (4, false, false), (7, false, false), (12, false, false), (13, false, true)] .nil) := draw_L
attribute [local go_sem] accountC balC lotC tradeC booksC booksA fileC diskC engC engA ownE
theorem c_CloneAccount (fs : List Account) (hn : fs.length ≤ 1000000000) (K : AV → AH → Prop) (hk : ∀ cap, K (.one (.sl 0 0 0 fs.length)) [.own 0 129 2 cap (fs.map accountC)]) : ACalls Tryz.prog 208 [(.one (.im (fs.map accountC)))] [] K := by
  refine acall_c Tryz.f208.results.toList mixed Tryz.func208 rfl rfl (by kernel_rfl) ?_
  intro Q hQ hQO
  simp only [go_sem]
  by_cases hf : fs = []
  · subst hf
    simp only [go_sem, nq_im0, nqG]
    intro b
    (try simp only [go_sem]); repeat' (first | (with_reducible first | refine c_split ?_ ?_ | refine w_split ?_ ?_) <;> intro hb <;> try simp only [go_sem, hb] | fail)
    · refine hQO [0] _ _ (GC.step (Ghost.nlr 2 (by simp only [go_sem]) 129 2) (GC.now ?_)) <;> simp only [Tryz.f208, go_sem, List.nodup_cons, List.nodup_nil, List.mem_cons, List.not_mem_nil, or_false, not_false_eq_true, List.idxOf?_cons, List.idxOf?_nil, Option.map_none]
      exact hk _
    · refine ap_end rfl rfl (by decide) ?_
      (try simp only [go_sem]); repeat' (first | (with_reducible first | refine c_split ?_ ?_ | refine w_split ?_ ?_) <;> intro hb <;> try simp only [go_sem, hb] | fail)
      refine hQO [0] _ _ (GC.now ?_) <;> simp only [Tryz.f208, go_sem, List.nodup_cons, List.nodup_nil, List.mem_cons, List.not_mem_nil, or_false, not_false_eq_true, List.idxOf?_cons, List.idxOf?_nil, Option.map_none]
      exact hk _
  · have hne : fs.map accountC ≠ [] := by simpa using hf
    (try simp only [go_sem, nq_im _ hne, nqG]); repeat' (first | (with_reducible first | refine c_split ?_ ?_ | refine w_split ?_ ?_) <;> intro hb <;> try simp only [go_sem, hb, nq_im _ hne, nqG] | fail)
    refine ap_end rfl rfl (by simp; omega) ?_
    (try simp only [go_sem, Nat.zero_add]); repeat' (first | (with_reducible first | refine c_split ?_ ?_ | refine w_split ?_ ?_) <;> intro hb <;> try simp only [go_sem, hb, Nat.zero_add] | fail)
    refine hQO [0] _ _ (GC.now ?_) <;> simp only [Tryz.f208, go_sem, List.nodup_cons, List.nodup_nil, List.mem_cons, List.not_mem_nil, or_false, not_false_eq_true, List.idxOf?_cons, List.idxOf?_nil, Option.map_none]
    exact hk _
theorem c_CloneInstr (fs : List Account) (hn : fs.length ≤ 1000000000) (K : AV → AH → Prop) (hk : ∀ cap, K (.one (.sl 0 0 0 fs.length)) [.own 0 131 2 cap (fs.map accountC)]) : ACalls Tryz.prog 209 [(.one (.im (fs.map accountC)))] [] K := by
  refine acall_c Tryz.f209.results.toList mixed Tryz.func209 rfl rfl (by kernel_rfl) ?_
  intro Q hQ hQO
  simp only [go_sem]
  by_cases hf : fs = []
  · subst hf
    simp only [go_sem, nq_im0, nqG]
    intro b
    (try simp only [go_sem]); repeat' (first | (with_reducible first | refine c_split ?_ ?_ | refine w_split ?_ ?_) <;> intro hb <;> try simp only [go_sem, hb] | fail)
    · refine hQO [0] _ _ (GC.step (Ghost.nlr 2 (by simp only [go_sem]) 131 2) (GC.now ?_)) <;> simp only [Tryz.f209, go_sem, List.nodup_cons, List.nodup_nil, List.mem_cons, List.not_mem_nil, or_false, not_false_eq_true, List.idxOf?_cons, List.idxOf?_nil, Option.map_none]
      exact hk _
    · refine ap_end rfl rfl (by decide) ?_
      (try simp only [go_sem]); repeat' (first | (with_reducible first | refine c_split ?_ ?_ | refine w_split ?_ ?_) <;> intro hb <;> try simp only [go_sem, hb] | fail)
      refine hQO [0] _ _ (GC.now ?_) <;> simp only [Tryz.f209, go_sem, List.nodup_cons, List.nodup_nil, List.mem_cons, List.not_mem_nil, or_false, not_false_eq_true, List.idxOf?_cons, List.idxOf?_nil, Option.map_none]
      exact hk _
  · have hne : fs.map accountC ≠ [] := by simpa using hf
    (try simp only [go_sem, nq_im _ hne, nqG]); repeat' (first | (with_reducible first | refine c_split ?_ ?_ | refine w_split ?_ ?_) <;> intro hb <;> try simp only [go_sem, hb, nq_im _ hne, nqG] | fail)
    refine ap_end rfl rfl (by simp; omega) ?_
    (try simp only [go_sem, Nat.zero_add]); repeat' (first | (with_reducible first | refine c_split ?_ ?_ | refine w_split ?_ ?_) <;> intro hb <;> try simp only [go_sem, hb, Nat.zero_add] | fail)
    refine hQO [0] _ _ (GC.now ?_) <;> simp only [Tryz.f209, go_sem, List.nodup_cons, List.nodup_nil, List.mem_cons, List.not_mem_nil, or_false, not_false_eq_true, List.idxOf?_cons, List.idxOf?_nil, Option.map_none]
    exact hk _
theorem c_CloneBal (fs : List Bal) (hn : fs.length ≤ 1000000000) (K : AV → AH → Prop) (hk : ∀ cap, K (.one (.sl 0 0 0 fs.length)) [.own 0 134 3 cap (fs.map balC)]) : ACalls Tryz.prog 210 [(.one (.im (fs.map balC)))] [] K := by
  refine acall_c Tryz.f210.results.toList mixed Tryz.func210 rfl rfl (by kernel_rfl) ?_
  intro Q hQ hQO
  simp only [go_sem]
  by_cases hf : fs = []
  · subst hf
    simp only [go_sem, nq_im0, nqG]
    intro b
    (try simp only [go_sem]); repeat' (first | (with_reducible first | refine c_split ?_ ?_ | refine w_split ?_ ?_) <;> intro hb <;> try simp only [go_sem, hb] | fail)
    · refine hQO [0] _ _ (GC.step (Ghost.nlr 2 (by simp only [go_sem]) 134 3) (GC.now ?_)) <;> simp only [Tryz.f210, go_sem, List.nodup_cons, List.nodup_nil, List.mem_cons, List.not_mem_nil, or_false, not_false_eq_true, List.idxOf?_cons, List.idxOf?_nil, Option.map_none]
      exact hk _
    · refine ap_end rfl rfl (by decide) ?_
      (try simp only [go_sem]); repeat' (first | (with_reducible first | refine c_split ?_ ?_ | refine w_split ?_ ?_) <;> intro hb <;> try simp only [go_sem, hb] | fail)
      refine hQO [0] _ _ (GC.now ?_) <;> simp only [Tryz.f210, go_sem, List.nodup_cons, List.nodup_nil, List.mem_cons, List.not_mem_nil, or_false, not_false_eq_true, List.idxOf?_cons, List.idxOf?_nil, Option.map_none]
      exact hk _
  · have hne : fs.map balC ≠ [] := by simpa using hf
    (try simp only [go_sem, nq_im _ hne, nqG]); repeat' (first | (with_reducible first | refine c_split ?_ ?_ | refine w_split ?_ ?_) <;> intro hb <;> try simp only [go_sem, hb, nq_im _ hne, nqG] | fail)
    refine ap_end rfl rfl (by simp; omega) ?_
    (try simp only [go_sem, Nat.zero_add]); repeat' (first | (with_reducible first | refine c_split ?_ ?_ | refine w_split ?_ ?_) <;> intro hb <;> try simp only [go_sem, hb, Nat.zero_add] | fail)
    refine hQO [0] _ _ (GC.now ?_) <;> simp only [Tryz.f210, go_sem, List.nodup_cons, List.nodup_nil, List.mem_cons, List.not_mem_nil, or_false, not_false_eq_true, List.idxOf?_cons, List.idxOf?_nil, Option.map_none]
    exact hk _
theorem c_CloneTrade (fs : List Trade) (hn : fs.length ≤ 1000000000) (K : AV → AH → Prop) (hk : ∀ cap, K (.one (.sl 0 0 0 fs.length)) [.own 0 140 8 cap (fs.map tradeC)]) : ACalls Tryz.prog 212 [(.one (.im (fs.map tradeC)))] [] K := by
  refine acall_c Tryz.f212.results.toList mixed Tryz.func212 rfl rfl (by kernel_rfl) ?_
  intro Q hQ hQO
  simp only [go_sem]
  by_cases hf : fs = []
  · subst hf
    simp only [go_sem, nq_im0, nqG]
    intro b
    (try simp only [go_sem]); repeat' (first | (with_reducible first | refine c_split ?_ ?_ | refine w_split ?_ ?_) <;> intro hb <;> try simp only [go_sem, hb] | fail)
    · refine hQO [0] _ _ (GC.step (Ghost.nlr 2 (by simp only [go_sem]) 140 8) (GC.now ?_)) <;> simp only [Tryz.f212, go_sem, List.nodup_cons, List.nodup_nil, List.mem_cons, List.not_mem_nil, or_false, not_false_eq_true, List.idxOf?_cons, List.idxOf?_nil, Option.map_none]
      exact hk _
    · refine ap_end rfl rfl (by decide) ?_
      (try simp only [go_sem]); repeat' (first | (with_reducible first | refine c_split ?_ ?_ | refine w_split ?_ ?_) <;> intro hb <;> try simp only [go_sem, hb] | fail)
      refine hQO [0] _ _ (GC.now ?_) <;> simp only [Tryz.f212, go_sem, List.nodup_cons, List.nodup_nil, List.mem_cons, List.not_mem_nil, or_false, not_false_eq_true, List.idxOf?_cons, List.idxOf?_nil, Option.map_none]
      exact hk _
  · have hne : fs.map tradeC ≠ [] := by simpa using hf
    (try simp only [go_sem, nq_im _ hne, nqG]); repeat' (first | (with_reducible first | refine c_split ?_ ?_ | refine w_split ?_ ?_) <;> intro hb <;> try simp only [go_sem, hb, nq_im _ hne, nqG] | fail)
    refine ap_end rfl rfl (by simp; omega) ?_
    (try simp only [go_sem, Nat.zero_add]); repeat' (first | (with_reducible first | refine c_split ?_ ?_ | refine w_split ?_ ?_) <;> intro hb <;> try simp only [go_sem, hb, Nat.zero_add] | fail)
    refine hQO [0] _ _ (GC.now ?_) <;> simp only [Tryz.f212, go_sem, List.nodup_cons, List.nodup_nil, List.mem_cons, List.not_mem_nil, or_false, not_false_eq_true, List.idxOf?_cons, List.idxOf?_nil, Option.map_none]
    exact hk _
theorem c_cloneBooks (b : Books) (hs : Small b) (K : AV → AH → Prop) (hk : ∀ c0 c1 c2 c3 c4, K (booksA b) [.own 0 129 2 c0 (b.accounts.map accountC), .own 0 131 2 c1 (b.instrs.map accountC), .own 0 134 3 c2 (b.bals.map balC), .own 0 137 5 c3 (b.lots.map lotC), .own 0 140 8 c4 (b.trades.map tradeC)]) : ACalls Tryz.prog 138 [.agg (booksC b)] [] K := by
  refine acall_c Tryz.f138.results.toList mixed Tryz.func138 rfl rfl (by kernel_rfl) ?_
  intro Q hQ hQO
  simp only [go_sem]
  (try simp only [go_sem]); repeat' (first | (with_reducible first | refine c_split ?_ ?_ | refine w_split ?_ ?_ | refine tw_split ?_ ?_) <;> intro hb <;> try simp only [go_sem, hb] | (first | with_reducible refine d138_0_LCopy (by with_unfolding_all rfl) (by kernel_rfl) ?_ | refine call_c (c_CloneAccount _ hs.ha _ (fun c0 => ?_)) | refine call_c (c_CloneInstr _ hs.hi _ (fun c1 => ?_)) | refine call_c (c_CloneBal _ hs.hb _ (fun c2 => ?_)) | refine call_c (c_CloneLot _ hs.hl _ (fun c3 => ?_)) | refine call_c (c_CloneTrade _ hs.ht _ (fun c4 => ?_)) | fail) <;> try simp only [go_sem] | fail)
  refine hQO [2, 3, 4, 5, 6] _ _ (GC.now ?_) <;> simp only [Tryz.f138, go_sem, List.nodup_cons, List.nodup_nil, List.mem_cons, List.not_mem_nil, or_false, not_false_eq_true, List.idxOf?_cons, List.idxOf?_nil, Option.map_none]
  exact hk _ _ _ _ _
theorem c_cloneEngine (e : Eng) (hs : SmallE e) (K : AV → AH → Prop) (hk : K (engA e) (ownE e)) : ACalls Tryz.prog 54 [.agg (engC e)] [] K := by
  refine acall_c Tryz.f54.results.toList mixed Tryz.func54 rfl rfl (by kernel_rfl) ?_
  intro Q hQ hQO
  simp only [go_sem]
  (try simp only [go_sem]); repeat' (first | (with_reducible first | refine c_split ?_ ?_ | refine w_split ?_ ?_ | refine tw_split ?_ ?_) <;> intro hb <;> try simp only [go_sem, hb] | (first | with_reducible refine d54_0_LCopy (by with_unfolding_all rfl) (by kernel_rfl) ?_ | refine call_c (c_cloneDisk e.disk hs.hn _ (fun c0 => ?_)) | refine call_c (c_cloneBooks e.books hs.hb _ (fun c1 c2 c3 c4 c5 => ?_)) | fail) <;> try simp only [go_sem] | fail)
  refine hQO [2, 3, 4, 5, 6, 7] _ _ (GC.step (Ghost.cut (l := 2) rfl e.disk.files.length) (GC.step (Ghost.cut (l := 3) rfl e.books.accounts.length) (GC.step (Ghost.cut (l := 4) rfl e.books.instrs.length) (GC.step (Ghost.cut (l := 5) rfl e.books.bals.length) (GC.step (Ghost.cut (l := 6) rfl e.books.lots.length) (GC.step (Ghost.cut (l := 7) rfl e.books.trades.length) (GC.now ?_))))))) <;> simp only [Tryz.f54, go_sem, List.nodup_cons, List.nodup_nil, List.mem_cons, List.not_mem_nil, or_false, not_false_eq_true, List.idxOf?_cons, List.idxOf?_nil, Option.map_none]
  exact hk
theorem c_l6Copy (b : Books) (hs : Small b) (K : AV → AH → Prop) (hk : K (.agg (booksC b)) []) : ACalls Tryz.prog 92 [.agg (booksC b)] [] K := by
  refine acall_c Tryz.f92.results.toList mixed Tryz.func92 rfl rfl (by kernel_rfl) ?_
  intro Q hQ hQO
  simp only [go_sem]
  (try simp only [go_sem]); repeat' (first | (with_reducible first | refine c_split ?_ ?_ | refine w_split ?_ ?_) <;> intro hb <;> try simp only [go_sem, hb] | fail)
  refine ap_end rfl rfl (by have := hs.ha; simp; omega) ?_
  (try simp only [go_sem]); repeat' (first | (with_reducible first | refine c_split ?_ ?_ | refine w_split ?_ ?_) <;> intro hb <;> try simp only [go_sem, hb] | fail)
  refine ap_end rfl rfl (by have := hs.hi; simp; omega) ?_
  (try simp only [go_sem]); repeat' (first | (with_reducible first | refine c_split ?_ ?_ | refine w_split ?_ ?_) <;> intro hb <;> try simp only [go_sem, hb] | fail)
  refine ap_end rfl rfl (by have := hs.hb; simp; omega) ?_
  (try simp only [go_sem]); repeat' (first | (with_reducible first | refine c_split ?_ ?_ | refine w_split ?_ ?_) <;> intro hb <;> try simp only [go_sem, hb] | fail)
  refine ap_end rfl rfl (by have := hs.hl; simp; omega) ?_
  (try simp only [go_sem]); repeat' (first | (with_reducible first | refine c_split ?_ ?_ | refine w_split ?_ ?_) <;> intro hb <;> try simp only [go_sem, hb] | fail)
  refine ap_end rfl rfl (by have := hs.ht; simp; omega) ?_
  (try simp only [go_sem]); repeat' (first | (with_reducible first | refine c_split ?_ ?_ | refine w_split ?_ ?_) <;> intro hb <;> try simp only [go_sem, hb] | with_reducible refine hQ _ _ ?_ <;> simp only [Tryz.f92, go_sem])
  exact hk
theorem c_l17Copy (e : Eng) (hs : SmallE e) (K : AV → AH → Prop) (hk : K (.agg (engC e)) []) : ACalls Tryz.prog 90 [.agg (engC e)] [] K := by
  refine acall_c Tryz.f90.results.toList mixed Tryz.func90 rfl rfl (by kernel_rfl) ?_
  intro Q hQ hQO
  simp only [go_sem]
  (try simp only [go_sem]); repeat' (first | (with_reducible first | refine c_split ?_ ?_ | refine w_split ?_ ?_ | refine tw_split ?_ ?_) <;> intro hb <;> try simp only [go_sem, hb] | (first | with_reducible refine d90_0_LCopy (by with_unfolding_all rfl) (by kernel_rfl) ?_ | refine call_c (c_l14Copy e.disk hs.hn _ ?_) | refine call_c (c_l6Copy e.books hs.hb _ ?_) | fail) <;> try simp only [go_sem] | with_reducible refine hQ _ _ ?_ <;> simp only [Tryz.f90, go_sem])
  exact hk
theorem c_l17Down (e : Eng) (d : Disk) (keep : Int) (hs : SmallE e) (hn : d.files.length ≤ 1000000000) (hz : SmallF d.files) (K : AV → AH → Prop) (hk : K (.tup [.agg (engC (if e.up = true then ⟨false, crashR d keep, ⟨[], [], [], [], [], 0⟩, 0, 0⟩ else e)), (.one (.c (.int .i64 (if e.up = true then 0 else 2))))]) []) : ACalls Tryz.prog 52 [.agg (engC e), .agg (diskC d), (.one (.c (.int .i64 (keep))))] [] K := by
  refine acall_c Tryz.f52.results.toList mixed Tryz.func52 rfl rfl (by kernel_rfl) ?_
  intro Q hQ hQO
  simp only [go_sem]
  cases hu : e.up with
  | true =>
    rw [if_pos hu, if_pos hu] at hk
    (try simp only [go_sem, hu]); repeat' (first | (with_reducible first | refine c_split ?_ ?_ | refine w_split ?_ ?_) <;> intro hb <;> try simp only [go_sem, hb, hu] | refine call_c (c_spec_DiskCrash d keep hn hz _ ?_) <;> try simp only [go_sem, hu] | with_reducible refine hQ _ _ ?_ <;> simp only [Tryz.f52, go_sem, hu])
    exact hk
  | false =>
    rw [if_neg (by rw [hu]; decide), if_neg (by rw [hu]; decide)] at hk
    have cC := fun K' hk' => c_l17Copy e hs K' hk'
    simp only [engC] at cC hk
    rw [hu] at cC hk
    (try simp only [go_sem, hu]); repeat' (first | (with_reducible first | refine c_split ?_ ?_ | refine w_split ?_ ?_) <;> intro hb <;> try simp only [go_sem, hb, hu] | refine call_c (cC _ ?_) <;> try simp only [go_sem, hu] | with_reducible refine hQ _ _ ?_ <;> simp only [Tryz.f52, go_sem, hu])
    exact hk
def downE (d : Disk) (keep : Int) : Eng := ⟨false, crashR d keep, ⟨[], [], [], [], [], 0⟩, 0, 0⟩
theorem c_crashed (d : Disk) (keep : Int) (hn : d.files.length ≤ 1000000000) (hz : SmallF d.files) (K : AV → AH → Prop) (hk : K (engA (downE d keep)) (ownE (downE d keep))) : ACalls Tryz.prog 55 [.agg (diskC d), (.one (.c (.int .i64 (keep))))] [] K := by
  refine acall_c Tryz.f55.results.toList mixed Tryz.func55 rfl rfl (by kernel_rfl) ?_
  intro Q hQ hQO
  simp only [go_sem]
  (try simp only [go_sem]); repeat' (first | (with_reducible first | refine c_split ?_ ?_ | refine w_split ?_ ?_) <;> intro hb <;> try simp only [go_sem, hb] | refine call_c (c_impl_DiskCrash d keep hn hz _ ?_) <;> try simp only [go_sem] | fail)
  refine hQO [2, 3, 4, 5, 6, 7] _ _ (GC.step (Ghost.nlc (l := 1) rfl 0 3 rfl rfl 129 2) (GC.step (Ghost.nlc (l := 1) rfl 0 4 rfl rfl 131 2) (GC.step (Ghost.nlc (l := 1) rfl 0 5 rfl rfl 134 3) (GC.step (Ghost.nlc (l := 1) rfl 0 6 rfl rfl 137 5) (GC.step (Ghost.nlc (l := 1) rfl 0 7 rfl rfl 140 8) (GC.now ?_)))))) <;> simp only [Tryz.f55, go_sem, List.nodup_cons, List.nodup_nil, List.mem_cons, List.not_mem_nil, or_false, not_false_eq_true, List.idxOf?_cons, List.idxOf?_nil, Option.map_none]
  exact hk
end Go.Proofs.YtlefjpbhbiajfaaGreat
end
section
namespace Go.Proofs.YtlefjpbhbiajfaaGreat
open Go.BL Go.RowKit
set_option linter.unusedVariables false
set_option linter.unusedSimpArgs false
set_option maxRecDepth 100000
theorem d94_0_LEngSave : DrawL Tryz.prog 0 3 (.on [(0, true, true), (1, true, true), (3, true, false), (4, true, false), (2, false, false), (5, false, false), (6, false, true)] .nil) := draw_L
theorem d91_0_LEngSave : DrawL Tryz.prog 0 3 (.on [(0, true, true), (1, true, true), (3, true, false), (4, true, false), (2, false, false), (5, false, false), (6, false, false), (7, false, true)] .nil) := draw_L
attribute [local go_sem] accountC balC lotC tradeC booksC booksA fileC diskC engC engA ownE saveC diskR
def saveOfE (e : Eng) : Save := ⟨after e.seg, e.books⟩
theorem c_saveOf (e : Eng) (K : AV → AH → Prop) (hk : K (.agg (saveC (saveOfE e))) []) : ACalls Tryz.prog 94 [.agg (engC e)] [] K := by
  refine acall_c Tryz.f94.results.toList mixed Tryz.func94 rfl rfl (by kernel_rfl) ?_
  intro Q hQ hQO
  simp only [go_sem]
  (try simp only [go_sem]); repeat' (first | (with_reducible first | refine c_split ?_ ?_ | refine w_split ?_ ?_ | refine tw_split ?_ ?_) <;> intro hb <;> try simp only [go_sem, hb] | (first | with_reducible refine d94_0_LEngSave (by with_unfolding_all rfl) (by kernel_rfl) ?_ | refine call_c (c_behind _ _ ?_) | fail) <;> try simp only [go_sem] | with_reducible refine hQ _ _ ?_ <;> simp only [Tryz.f94, go_sem])
  all_goals exact hk
theorem c_l17Save (e : Eng) (hs : SmallE e) (K : AV → AH → Prop) (hk : K (.agg (saveC (saveOfE e))) []) : ACalls Tryz.prog 91 [.agg (engC e)] [] K := by
  refine acall_c Tryz.f91.results.toList mixed Tryz.func91 rfl rfl (by kernel_rfl) ?_
  intro Q hQ hQO
  simp only [go_sem]
  (try simp only [go_sem]); repeat' (first | (with_reducible first | refine c_split ?_ ?_ | refine w_split ?_ ?_ | refine tw_split ?_ ?_) <;> intro hb <;> try simp only [go_sem, hb] | (first | with_reducible refine d91_0_LEngSave (by with_unfolding_all rfl) (by kernel_rfl) ?_ | refine call_c (c_l15After _ _ ?_) | refine call_c (c_l6Copy e.books hs.hb _ ?_) | fail) <;> try simp only [go_sem] | with_reducible refine hQ _ _ ?_ <;> simp only [Tryz.f91, go_sem])
  all_goals exact hk
end Go.Proofs.YtlefjpbhbiajfaaGreat
end
section
namespace Go.Proofs.YtlefjpbhbiajfaaGreat
open Go.BL Go.RowKit
set_option linter.unusedVariables false
set_option linter.unusedSimpArgs false
set_option maxRecDepth 100000
theorem d39_0_LEngTorn : DrawL Tryz.prog 0 32 (.on [(0, true, true), (1, true, false), (3, true, false)] (.fork (.on [(2, false, false)] (.fork (.on [(4, false, true), (5, true, true), (6, true, true), (7, true, true), (8, false, false), (9, false, true), (10, false, true)] .nil) (.on [(8, false, false), (4, false, true), (5, true, true), (6, true, true), (7, true, true), (9, false, true), (10, false, true)] .nil))) (.on [(8, false, false), (2, false, false), (4, false, true), (5, true, true), (6, true, true), (7, true, true), (9, false, true), (10, false, true)] .nil))) := draw_L
theorem d38_0_LEngTorn : DrawL Tryz.prog 0 32 (.on [(0, true, true), (1, true, false), (3, true, false)] (.fork (.on [(2, false, false)] (.fork (.on [(4, false, true), (5, true, true), (6, true, true), (7, true, true), (8, false, false), (9, false, true), (10, false, true)] .nil) (.on [(8, false, false), (4, false, true), (5, true, true), (6, true, true), (7, true, true), (9, false, true), (10, false, true)] .nil))) (.on [(8, false, false), (2, false, false), (4, false, true), (5, true, true), (6, true, true), (7, true, true), (9, false, true), (10, false, true)] .nil))) := draw_L
attribute [local go_sem] accountC balC lotC tradeC booksC booksA fileC diskC engC engA ownE saveC diskR
def tornGo (s : Save) : Nat → Nat → Disk → Disk
  | 0, _, out => out
  | f + 1, k, out => if (stepR out s k).2 = 0 then tornGo s f (k + 1) (stepR out s k).1 else out
def tornN (steps : Int) : Nat := if 0 ≤ steps ∧ steps ≤ 4 then steps.toNat else 0
def tornE (e : Eng) (steps keep : Int) : Eng × Int := if engOk e = true then (if e.up = true then (downE (tornGo (saveOfE e) (tornN steps) 0 e.disk) keep, 0) else (e, 2)) else (noE, 1)
theorem torn_some {s : Save} {n i : Nat} {out : Disk} (hi : i < n) (h : (stepR out s i).2 = 0) : tornGo s (n - i) i out = tornGo s (n - (i + 1)) (i + 1) (stepR out s i).1 := by
  rw [show n - i = (n - (i + 1)) + 1 by omega, tornGo, if_pos h]
theorem torn_none {s : Save} {n i : Nat} {out : Disk} (hi : i < n) (h : ¬ (stepR out s i).2 = 0) : tornGo s (n - i) i out = out := by
  rw [show n - i = (n - (i + 1)) + 1 by omega, tornGo, if_neg h]
theorem torn_end (s : Save) (n : Nat) (out : Disk) : tornGo s (n - n) n out = out := by rw [Nat.sub_self]; rfl
theorem c_impl_EngineTornSave (e : Eng) (steps keep : Int) (hs : SmallE e) (hz : SmallF e.disk.files) (K : AV → AH → Prop) (hk : K (.tup [engA (tornE e steps keep).1, (.one (.c (.int .i64 ((tornE e steps keep).2))))]) (ownE (tornE e steps keep).1)) : ACalls Tryz.prog 39 [.agg (engC e), (.one (.c (.int .i64 (steps)))), (.one (.c (.int .i64 (keep))))] [] K := by
  have cO := fun K' hk' => c_impl_EngineOk e hs K' hk'
  have cC := fun K' hk' => c_cloneEngine e hs K' hk'
  have cS := fun K' hk' => c_saveOf e K' hk'
  refine acall_c Tryz.f39.results.toList mixed Tryz.func39 rfl rfl (by kernel_rfl) ?_
  intro Q hQ hQO
  simp only [go_sem]
  cases ho : engOk e with
  | false =>
    rw [tornE, if_neg (by rw [ho]; decide)] at hk
    rw [ho] at cO
    (try simp only [go_sem]); repeat' (first | (with_reducible first | refine c_split ?_ ?_ | refine w_split ?_ ?_ | refine tw_split ?_ ?_) <;> intro hb <;> try simp only [go_sem, hb] | (first | with_reducible refine d39_0_LEngTorn (by with_unfolding_all rfl) (by kernel_rfl) ?_ | with_reducible refine fork_at ?_ ?_ | refine call_c (cO _ ?_) | fail) <;> try simp only [go_sem] | fail)
    refine hQO [2, 3, 4, 5, 6, 7] _ _ (GC.step (Ghost.nlc (l := 1) rfl 0 2 rfl rfl 125 3) (GC.step (Ghost.nlc (l := 1) rfl 0 3 rfl rfl 129 2) (GC.step (Ghost.nlc (l := 1) rfl 0 4 rfl rfl 131 2) (GC.step (Ghost.nlc (l := 1) rfl 0 5 rfl rfl 134 3) (GC.step (Ghost.nlc (l := 1) rfl 0 6 rfl rfl 137 5) (GC.step (Ghost.nlc (l := 1) rfl 0 7 rfl rfl 140 8) (GC.now ?_))))))) <;> simp only [Tryz.f39, go_sem, List.nodup_cons, List.nodup_nil, List.mem_cons, List.not_mem_nil, or_false, not_false_eq_true, List.idxOf?_cons, List.idxOf?_nil, Option.map_none]
    exact hk
  | true =>
    rw [tornE, if_pos ho] at hk
    rw [ho] at cO
    cases hu : e.up with
    | false =>
      rw [if_neg (by rw [hu]; decide)] at hk
      simp only [engC, engA, hu] at cO cC hk
      (try simp only [go_sem, hu]); repeat' (first | (with_reducible first | refine c_split ?_ ?_ | refine w_split ?_ ?_ | refine tw_split ?_ ?_) <;> intro hb <;> try simp only [go_sem, hb, hu] | (first | with_reducible refine d39_0_LEngTorn (by with_unfolding_all rfl) (by kernel_rfl) ?_ | with_reducible refine fork_at ?_ ?_ | refine call_c (cO _ ?_) | refine call_c (cC _ ?_) | fail) <;> try simp only [go_sem, hu] | fail)
      refine hQO [2, 3, 4, 5, 6, 7] _ _ (GC.now ?_) <;> simp only [Tryz.f39, go_sem, List.nodup_cons, List.nodup_nil, List.mem_cons, List.not_mem_nil, or_false, not_false_eq_true, List.idxOf?_cons, List.idxOf?_nil, Option.map_none]
      exact hk
    | true =>
      rw [if_pos hu] at hk
      simp only [engC, hu] at cO cS
      simp only [saveC] at cS
      by_cases hst : 0 ≤ steps ∧ steps ≤ 4
      · obtain ⟨n, rfl⟩ : ∃ n : Nat, steps = (n : Int) := ⟨steps.toNat, by omega⟩
        have hn4 : n ≤ 4 := Int.ofNat_le.1 hst.2
        have hnn : tornN (n : Int) = n := by unfold tornN; rw [if_pos hst]; rfl
        rw [hnn] at hk
        have d1 : decide ((n : Int) ≤ 4) = true := decide_eq_true hst.2
        (try simp only [go_sem, hu, d1]); repeat' (first | (with_reducible first | refine c_split ?_ ?_ | refine w_split ?_ ?_ | refine tw_split ?_ ?_) <;> intro hb <;> try simp only [go_sem, hb, hu, d1] | (first | with_reducible refine d39_0_LEngTorn (by with_unfolding_all rfl) (by kernel_rfl) ?_ | with_reducible refine fork_at ?_ ?_ | refine call_c (cO _ ?_) | refine call_c (c_in _ _ _ _ ?_) | refine call_c (c_cloneDisk e.disk hs.hn _ (fun cap0 => ?_)) | fail) <;> try simp only [go_sem, hu, d1] | fail)
        refine while_at (α := Nat × Disk × Option Nat) (fun ⟨q, out, cap⟩ => n - q) [2, 3, 6, 8, 27] (fun ⟨q, out, cap⟩ f h => f 28 = (.one (.c (.int .i64 ((q : Int))))) ∧ h = [.own 0 33 11 (some 1) [[.c (.bool (true)), .c (.int .i64 (e.disk.room)), .im (e.disk.files.map fileC), .im (e.books.accounts.map accountC), .im (e.books.instrs.map accountC), .im (e.books.bals.map balC), .im (e.books.lots.map lotC), .im (e.books.trades.map tradeC), .c (.int .i64 (e.books.lot)), .c (.int .i64 (e.seg)), .c (.int .i64 (e.count))]], .own 0 33 11 (some 1) [[.c (.bool (false)), .c (.int .i64 (0)), .nl, .nl, .nl, .nl, .nl, .nl, .c (.int .i64 (0)), .c (.int .i64 (0)), .c (.int .i64 (0))]], .own 0 125 3 cap (out.files.map fileC), .own 0 24 2 (some 1) [[.c (.int .i64 (out.room)), .sl 2 0 0 out.files.length]]] ∧ q ≤ n ∧ tornGo (saveOfE e) n 0 e.disk = tornGo (saveOfE e) (n - q) q out ∧ out.files.length ≤ 1000000000 ∧ SmallF out.files) (0, e.disk, cap0) (GC.now ?_) ?_
        · simp only [go_sem, nc_0, true_and]
          exact ⟨Nat.zero_le _, rfl, hs.hn, hz⟩
        · rintro ⟨q, out, cap⟩ f h J hA ⟨e28, rfl, hP⟩ hJ
          simp only [go_sem] at hA
          try dsimp only at hJ
          simp only [go_sem, hA, e28]
          obtain ⟨hqn, hw, hno, hzo⟩ := hP
          have cK := fun K' hk' => c_crashed out keep hno hzo K' hk'
          refine c_split (fun hb => ?_) (fun hb => ?_)
          · have hlt : q < n := lt_len hb
            have hqw := wrap_nat q (by omega)
            have cT := fun K' hk' => c_impl_SaveStep out (saveOfE e) (q : Int) hno hzo hs.hb K' hk'
            have t1 := torn_some (s := saveOfE e) (out := out) hlt
            have t2 := torn_none (s := saveOfE e) (out := out) hlt
            have hgd := step_good (d := out) (s := saveOfE e) (k := (q : Int)) hzo
            generalize stepR out (saveOfE e) (q : Int) = R at cT t1 t2 hgd
            obtain ⟨o2, code⟩ := R
            simp only [saveOfE, saveC] at cS cT t1 t2 hgd
            cases e0 : (code == 0) with
            | true =>
              have e0' : code = 0 := eq_of_beq e0
              subst e0'
              have hg2 := hgd rfl
              have hl2 : o2.files.length ≤ 1000000000 := Nat.le_trans (good_len hg2) (by decide)
              have hz2 := good_small hg2
              have t3 := hw.trans (t1 rfl)
              (try simp only [go_sem, hA, e28, fileC_tk, BEq.rfl]); repeat' (first | (with_reducible first | refine c_split ?_ ?_ | refine w_split ?_ ?_ | refine tw_split ?_ ?_) <;> intro hb <;> try simp only [go_sem, hb, hA, e28, fileC_tk, BEq.rfl] | (first | with_reducible refine d39_0_LEngTorn (by with_unfolding_all rfl) (by kernel_rfl) ?_ | with_reducible refine fork_at ?_ ?_ | refine call_c (cS _ ?_) | refine call_c (cT _ ?_) | fail) <;> try simp only [go_sem, hA, e28, fileC_tk, BEq.rfl] | fail)
              · refine GC.step (Ghost.gc [0, 1, 4, 3] (by simp only [go_sem]) rfl) (GC.now (hJ (q + 1, o2, none) _ _ (by omega) (by simp only [go_sem, hA, e28, List.idxOf?_cons, List.idxOf?_nil, Option.map_none]) ⟨?_, ?_, ?_⟩)) <;> try simp only [go_sem, hA, e28, hqw, List.idxOf?_cons, List.idxOf?_nil]
                exact ⟨hlt, t3, hl2, hz2⟩
              · refine GC.step (Ghost.gc [0, 1, 5, 3] (by simp only [go_sem]) rfl) (GC.now (hJ (q + 1, o2, none) _ _ (by omega) (by simp only [go_sem, hA, e28, List.idxOf?_cons, List.idxOf?_nil, Option.map_none]) ⟨?_, ?_, ?_⟩)) <;> try simp only [go_sem, hA, e28, hqw, List.idxOf?_cons, List.idxOf?_nil]
                exact ⟨hlt, t3, hl2, hz2⟩
              · refine GC.step (Ghost.gc [0, 1, 5, 3] (by simp only [go_sem]) rfl) (GC.now (hJ (q + 1, o2, none) _ _ (by omega) (by simp only [go_sem, hA, e28, List.idxOf?_cons, List.idxOf?_nil, Option.map_none]) ⟨?_, ?_, ?_⟩)) <;> try simp only [go_sem, hA, e28, hqw, List.idxOf?_cons, List.idxOf?_nil]
                exact ⟨hlt, t3, hl2, hz2⟩
            | false =>
              have t3 := hw.trans (t2 (by simpa using e0))
              rw [t3] at hk
              (try simp only [go_sem, hA, e28, fileC_tk, e0]); repeat' (first | (with_reducible first | refine c_split ?_ ?_ | refine w_split ?_ ?_ | refine tw_split ?_ ?_) <;> intro hb <;> try simp only [go_sem, hb, hA, e28, fileC_tk, e0] | (first | with_reducible refine d39_0_LEngTorn (by with_unfolding_all rfl) (by kernel_rfl) ?_ | with_reducible refine fork_at ?_ ?_ | refine call_c (cS _ ?_) | refine call_c (cT _ ?_) | refine call_c (cK _ ?_) | fail) <;> try simp only [go_sem, hA, e28, fileC_tk, e0] | fail)
              · refine hQO [6, 7, 8, 9, 10, 11] _ _ (GC.now ?_) <;> simp only [Tryz.f39, go_sem, List.nodup_cons, List.nodup_nil, List.mem_cons, List.not_mem_nil, or_false, not_false_eq_true, List.idxOf?_cons, List.idxOf?_nil, Option.map_none, hA, e28]
                exact hk
              · refine hQO [6, 7, 8, 9, 10, 11] _ _ (GC.now ?_) <;> simp only [Tryz.f39, go_sem, List.nodup_cons, List.nodup_nil, List.mem_cons, List.not_mem_nil, or_false, not_false_eq_true, List.idxOf?_cons, List.idxOf?_nil, Option.map_none, hA, e28]
                exact hk
              · refine hQO [6, 7, 8, 9, 10, 11] _ _ (GC.now ?_) <;> simp only [Tryz.f39, go_sem, List.nodup_cons, List.nodup_nil, List.mem_cons, List.not_mem_nil, or_false, not_false_eq_true, List.idxOf?_cons, List.idxOf?_nil, Option.map_none, hA, e28]
                exact hk
          · have hqe : q = n := by have := of_decide_eq_false hb; omega
            subst hqe
            rw [torn_end] at hw
            rw [hw] at hk
            (try simp only [go_sem, hA, e28, fileC_tk]); repeat' (first | (with_reducible first | refine c_split ?_ ?_ | refine w_split ?_ ?_ | refine tw_split ?_ ?_) <;> intro hb <;> try simp only [go_sem, hb, hA, e28, fileC_tk] | (first | with_reducible refine d39_0_LEngTorn (by with_unfolding_all rfl) (by kernel_rfl) ?_ | with_reducible refine fork_at ?_ ?_ | refine call_c (cK _ ?_) | fail) <;> try simp only [go_sem, hA, e28, fileC_tk] | fail)
            refine hQO [4, 5, 6, 7, 8, 9] _ _ (GC.now ?_) <;> simp only [Tryz.f39, go_sem, List.nodup_cons, List.nodup_nil, List.mem_cons, List.not_mem_nil, or_false, not_false_eq_true, List.idxOf?_cons, List.idxOf?_nil, Option.map_none, hA, e28]
            exact hk
      · have hnn : tornN steps = 0 := by unfold tornN; rw [if_neg hst]
        rw [hnn] at hk
        have d1 : decide (0 ≤ steps ∧ steps ≤ 4) = false := decide_eq_false hst
        (try simp only [go_sem, hu, d1]); repeat' (first | (with_reducible first | refine c_split ?_ ?_ | refine w_split ?_ ?_ | refine tw_split ?_ ?_) <;> intro hb <;> try simp only [go_sem, hb, hu, d1] | (first | with_reducible refine d39_0_LEngTorn (by with_unfolding_all rfl) (by kernel_rfl) ?_ | with_reducible refine fork_at ?_ ?_ | refine call_c (cO _ ?_) | refine call_c (c_in _ _ _ _ ?_) | refine call_c (c_cloneDisk e.disk hs.hn _ (fun cap => ?_)) | fail) <;> try simp only [go_sem, hu, d1] | fail)
        refine while_at (α := Nat) (fun q => 0 - q) [2, 3, 6, 8, 27] (fun q f h => f 28 = (.one (.c (.int .i64 ((q : Int))))) ∧ h = [.own 0 33 11 (some 1) [[.c (.bool (true)), .c (.int .i64 (e.disk.room)), .im (e.disk.files.map fileC), .im (e.books.accounts.map accountC), .im (e.books.instrs.map accountC), .im (e.books.bals.map balC), .im (e.books.lots.map lotC), .im (e.books.trades.map tradeC), .c (.int .i64 (e.books.lot)), .c (.int .i64 (e.seg)), .c (.int .i64 (e.count))]], .own 0 33 11 (some 1) [[.c (.bool (false)), .c (.int .i64 (0)), .nl, .nl, .nl, .nl, .nl, .nl, .c (.int .i64 (0)), .c (.int .i64 (0)), .c (.int .i64 (0))]], .own 0 125 3 cap (e.disk.files.map fileC), .own 0 24 2 (some 1) [[.c (.int .i64 (e.disk.room)), .sl 2 0 0 e.disk.files.length]]] ∧ q = 0) 0 (GC.now ?_) ?_
        · simp only [go_sem, nc_0, true_and]
          skip
        · rintro q f h J hA ⟨e28, rfl, hP⟩ hJ
          simp only [go_sem] at hA
          try dsimp only at hJ
          simp only [go_sem, hA, e28]
          subst hP
          have hlt0 : decide (((0 : Nat) : Int) < 0) = false := rfl
          (try simp only [go_sem, hA, e28, fileC_tk, hlt0]); repeat' (first | (with_reducible first | refine c_split ?_ ?_ | refine w_split ?_ ?_ | refine tw_split ?_ ?_) <;> intro hb <;> try simp only [go_sem, hb, hA, e28, fileC_tk, hlt0] | (first | with_reducible refine d39_0_LEngTorn (by with_unfolding_all rfl) (by kernel_rfl) ?_ | with_reducible refine fork_at ?_ ?_ | refine call_c (c_crashed e.disk keep hs.hn hz _ ?_) | fail) <;> try simp only [go_sem, hA, e28, fileC_tk, hlt0] | fail)
          refine hQO [4, 5, 6, 7, 8, 9] _ _ (GC.now ?_) <;> simp only [Tryz.f39, go_sem, List.nodup_cons, List.nodup_nil, List.mem_cons, List.not_mem_nil, or_false, not_false_eq_true, List.idxOf?_cons, List.idxOf?_nil, Option.map_none, hA, e28]
          exact hk
theorem c_spec_EngineTornSave (e : Eng) (steps keep : Int) (hs : SmallE e) (hz : SmallF e.disk.files) (K : AV → AH → Prop) (hk : K (.tup [.agg (engC (tornE e steps keep).1), (.one (.c (.int .i64 ((tornE e steps keep).2))))]) []) : ACalls Tryz.prog 38 [.agg (engC e), (.one (.c (.int .i64 (steps)))), (.one (.c (.int .i64 (keep))))] [] K := by
  have cO := fun K' hk' => c_spec_EngineOk e hs K' hk'
  have cS := fun K' hk' => c_l17Save e hs K' hk'
  have hdn : ∀ d : Disk, d.files.length ≤ 1000000000 → SmallF d.files → ∀ (K' : AV → AH → Prop), _ → ACalls Tryz.prog 52 [.agg (engC e), .agg (diskC d), (.one (.c (.int .i64 (keep))))] [] K' := fun d h1 h2 K' hk' => c_l17Down e d keep hs h1 h2 K' hk'
  refine acall_c Tryz.f38.results.toList mixed Tryz.func38 rfl rfl (by kernel_rfl) ?_
  intro Q hQ hQO
  simp only [go_sem]
  cases ho : engOk e with
  | false =>
    rw [tornE, if_neg (by rw [ho]; decide)] at hk
    rw [ho] at cO
    (try simp only [go_sem]); repeat' (first | (with_reducible first | refine c_split ?_ ?_ | refine w_split ?_ ?_ | refine tw_split ?_ ?_) <;> intro hb <;> try simp only [go_sem, hb] | (first | with_reducible refine d38_0_LEngTorn (by with_unfolding_all rfl) (by kernel_rfl) ?_ | with_reducible refine fork_at ?_ ?_ | refine call_c (cO _ ?_) | fail) <;> try simp only [go_sem] | with_reducible refine hQ _ _ ?_ <;> simp only [Tryz.f38, go_sem])
    exact hk
  | true =>
    rw [tornE, if_pos ho] at hk
    rw [ho] at cO
    cases hu : e.up with
    | false =>
      rw [if_neg (by rw [hu]; decide)] at hk
      simp only [engC, hu, if_neg Bool.false_ne_true] at cO hk hdn
      (try simp only [go_sem, hu]); repeat' (first | (with_reducible first | refine c_split ?_ ?_ | refine w_split ?_ ?_ | refine tw_split ?_ ?_) <;> intro hb <;> try simp only [go_sem, hb, hu] | (first | with_reducible refine d38_0_LEngTorn (by with_unfolding_all rfl) (by kernel_rfl) ?_ | with_reducible refine fork_at ?_ ?_ | refine call_c (cO _ ?_) | fail) <;> try simp only [go_sem, hu] | fail)
      refine while_at (α := Nat) (fun q => 0 - q) [1, 2, 3, 6, 8] (fun q f h => f 9 = (.one (.c (.int .i64 ((q : Int))))) ∧ h = [.own 0 33 11 (some 1) [[.c (.bool (false)), .c (.int .i64 (e.disk.room)), .im (e.disk.files.map fileC), .im (e.books.accounts.map accountC), .im (e.books.instrs.map accountC), .im (e.books.bals.map balC), .im (e.books.lots.map lotC), .im (e.books.trades.map tradeC), .c (.int .i64 (e.books.lot)), .c (.int .i64 (e.seg)), .c (.int .i64 (e.count))]], .own 0 33 11 (some 1) [[.c (.bool (false)), .c (.int .i64 (0)), .nl, .nl, .nl, .nl, .nl, .nl, .c (.int .i64 (0)), .c (.int .i64 (0)), .c (.int .i64 (0))]], .own 0 24 2 (some 1) [diskC e.disk]] ∧ q = 0) 0 (GC.now ?_) ?_
      · simp only [go_sem, nc_0, true_and]
        skip
      · rintro q f h J hA ⟨e9, rfl, hP⟩ hJ
        simp only [go_sem] at hA
        try dsimp only at hJ
        simp only [go_sem, hA, e9]
        subst hP
        (try simp only [go_sem, hA, e9, hu]); repeat' (first | (with_reducible first | refine c_split ?_ ?_ | refine w_split ?_ ?_ | refine tw_split ?_ ?_) <;> intro hb <;> try simp only [go_sem, hb, hA, e9, hu] | (first | with_reducible refine d38_0_LEngTorn (by with_unfolding_all rfl) (by kernel_rfl) ?_ | with_reducible refine fork_at ?_ ?_ | refine call_c (hdn e.disk hs.hn hz _ ?_) | fail) <;> try simp only [go_sem, hA, e9, hu] | with_reducible refine hQ _ _ ?_ <;> simp only [Tryz.f38, go_sem, hA, e9, hu])
        all_goals exact hk
    | true =>
      rw [if_pos hu] at hk
      simp only [engC, hu, if_true] at cO cS hdn
      simp only [saveC] at cS
      by_cases hst : 0 ≤ steps ∧ steps ≤ 4
      · obtain ⟨n, rfl⟩ : ∃ n : Nat, steps = (n : Int) := ⟨steps.toNat, by omega⟩
        have hn4 : n ≤ 4 := Int.ofNat_le.1 hst.2
        have hnn : tornN (n : Int) = n := by unfold tornN; rw [if_pos hst]; rfl
        rw [hnn] at hk
        have d1 : decide ((n : Int) ≤ 4) = true := decide_eq_true hst.2
        (try simp only [go_sem, hu]); repeat' (first | (with_reducible first | refine c_split ?_ ?_ | refine w_split ?_ ?_ | refine tw_split ?_ ?_) <;> intro hb <;> try simp only [go_sem, hb, hu] | (first | with_reducible refine d38_0_LEngTorn (by with_unfolding_all rfl) (by kernel_rfl) ?_ | with_reducible refine fork_at ?_ ?_ | refine call_c (cO _ ?_) | fail) <;> try simp only [go_sem, hu] | fail)
        refine while_at (α := Nat × Disk) (fun ⟨q, out⟩ => n - q) [1, 2, 3, 6, 8] (fun ⟨q, out⟩ f h => f 9 = (.one (.c (.int .i64 ((q : Int))))) ∧ h = [.own 0 33 11 (some 1) [[.c (.bool (true)), .c (.int .i64 (e.disk.room)), .im (e.disk.files.map fileC), .im (e.books.accounts.map accountC), .im (e.books.instrs.map accountC), .im (e.books.bals.map balC), .im (e.books.lots.map lotC), .im (e.books.trades.map tradeC), .c (.int .i64 (e.books.lot)), .c (.int .i64 (e.seg)), .c (.int .i64 (e.count))]], .own 0 33 11 (some 1) [[.c (.bool (false)), .c (.int .i64 (0)), .nl, .nl, .nl, .nl, .nl, .nl, .c (.int .i64 (0)), .c (.int .i64 (0)), .c (.int .i64 (0))]], .own 0 24 2 (some 1) [diskC out]] ∧ q ≤ n ∧ tornGo (saveOfE e) n 0 e.disk = tornGo (saveOfE e) (n - q) q out ∧ out.files.length ≤ 1000000000 ∧ SmallF out.files) (0, e.disk) (GC.now ?_) ?_
        · simp only [go_sem, nc_0, true_and]
          exact ⟨Nat.zero_le _, rfl, hs.hn, hz⟩
        · rintro ⟨q, out⟩ f h J hA ⟨e9, rfl, hP⟩ hJ
          simp only [go_sem] at hA
          try dsimp only at hJ
          simp only [go_sem, hA, e9]
          obtain ⟨hqn, hw, hno, hzo⟩ := hP
          have cK := hdn out hno hzo
          by_cases hlt : q < n
          · have hql : decide ((q : Int) < (n : Int)) = true := decide_eq_true (Int.ofNat_lt.2 hlt)
            have hqw := wrap_nat q (by omega)
            have cT := fun K' hk' => c_spec_SaveStep out (saveOfE e) (q : Int) hno hzo hs.hb K' hk'
            have t1 := torn_some (s := saveOfE e) (out := out) hlt
            have t2 := torn_none (s := saveOfE e) (out := out) hlt
            have hgd := step_good (d := out) (s := saveOfE e) (k := (q : Int)) hzo
            generalize stepR out (saveOfE e) (q : Int) = R at cT t1 t2 hgd
            obtain ⟨o2, code⟩ := R
            simp only [saveOfE, saveC, diskR] at cS cT t1 t2 hgd
            cases e0 : (code == 0) with
            | true =>
              have e0' : code = 0 := eq_of_beq e0
              subst e0'
              have hg2 := hgd rfl
              have hl2 : o2.files.length ≤ 1000000000 := Nat.le_trans (good_len hg2) (by decide)
              have hz2 := good_small hg2
              have t3 := hw.trans (t1 rfl)
              (try simp only [go_sem, hA, e9, hu, hql, d1, BEq.rfl]); repeat' (first | (with_reducible first | refine c_split ?_ ?_ | refine w_split ?_ ?_ | refine tw_split ?_ ?_) <;> intro hb <;> try simp only [go_sem, hb, hA, e9, hu, hql, d1, BEq.rfl] | (first | with_reducible refine d38_0_LEngTorn (by with_unfolding_all rfl) (by kernel_rfl) ?_ | with_reducible refine fork_at ?_ ?_ | refine call_c (cS _ ?_) | refine call_c (cT _ ?_) | fail) <;> try simp only [go_sem, hA, e9, hu, hql, d1, BEq.rfl] | fail)
              · refine gc_trim 3 (by decide) (by simp only [go_sem]) (by simp only [go_sem, hqw]) (hJ (q + 1, o2) _ _ (by omega) (by simp only [go_sem, hA, e9]) ⟨?_, ?_, ?_⟩) <;> try simp only [go_sem, hA, e9, hqw]
                exact ⟨hlt, t3, hl2, hz2⟩
              · refine gc_trim 3 (by decide) (by simp only [go_sem]) (by simp only [go_sem, hqw]) (hJ (q + 1, o2) _ _ (by omega) (by simp only [go_sem, hA, e9]) ⟨?_, ?_, ?_⟩) <;> try simp only [go_sem, hA, e9, hqw]
                exact ⟨hlt, t3, hl2, hz2⟩
              · refine gc_trim 3 (by decide) (by simp only [go_sem]) (by simp only [go_sem, hqw]) (hJ (q + 1, o2) _ _ (by omega) (by simp only [go_sem, hA, e9]) ⟨?_, ?_, ?_⟩) <;> try simp only [go_sem, hA, e9, hqw]
                exact ⟨hlt, t3, hl2, hz2⟩
            | false =>
              have t3 := hw.trans (t2 (by simpa using e0))
              rw [t3] at hk
              (try simp only [go_sem, hA, e9, hu, hql, d1, e0]); repeat' (first | (with_reducible first | refine c_split ?_ ?_ | refine w_split ?_ ?_ | refine tw_split ?_ ?_) <;> intro hb <;> try simp only [go_sem, hb, hA, e9, hu, hql, d1, e0] | (first | with_reducible refine d38_0_LEngTorn (by with_unfolding_all rfl) (by kernel_rfl) ?_ | with_reducible refine fork_at ?_ ?_ | refine call_c (cS _ ?_) | refine call_c (cT _ ?_) | refine call_c (cK _ ?_) | fail) <;> try simp only [go_sem, hA, e9, hu, hql, d1, e0] | with_reducible refine hQ _ _ ?_ <;> simp only [Tryz.f38, go_sem, hA, e9, hu, hql, d1, e0])
              all_goals exact hk
          · have hqe : q = n := by omega
            subst hqe
            have hql : decide ((q : Int) < (q : Int)) = false := decide_eq_false (by omega)
            rw [torn_end] at hw
            rw [hw] at hk
            (try simp only [go_sem, hA, e9, hql]); repeat' (first | (with_reducible first | refine c_split ?_ ?_ | refine w_split ?_ ?_ | refine tw_split ?_ ?_) <;> intro hb <;> try simp only [go_sem, hb, hA, e9, hql] | (first | with_reducible refine d38_0_LEngTorn (by with_unfolding_all rfl) (by kernel_rfl) ?_ | with_reducible refine fork_at ?_ ?_ | refine call_c (cK _ ?_) | fail) <;> try simp only [go_sem, hA, e9, hql] | with_reducible refine hQ _ _ ?_ <;> simp only [Tryz.f38, go_sem, hA, e9, hql])
            exact hk
      · have hnn : tornN steps = 0 := by unfold tornN; rw [if_neg hst]
        rw [hnn] at hk
        (try simp only [go_sem, hu]); repeat' (first | (with_reducible first | refine c_split ?_ ?_ | refine w_split ?_ ?_ | refine tw_split ?_ ?_) <;> intro hb <;> try simp only [go_sem, hb, hu] | (first | with_reducible refine d38_0_LEngTorn (by with_unfolding_all rfl) (by kernel_rfl) ?_ | with_reducible refine fork_at ?_ ?_ | refine call_c (cO _ ?_) | fail) <;> try simp only [go_sem, hu] | fail)
        refine while_at (α := Nat) (fun q => 0 - q) [1, 2, 3, 6, 8] (fun q f h => f 9 = (.one (.c (.int .i64 ((q : Int))))) ∧ h = [.own 0 33 11 (some 1) [[.c (.bool (true)), .c (.int .i64 (e.disk.room)), .im (e.disk.files.map fileC), .im (e.books.accounts.map accountC), .im (e.books.instrs.map accountC), .im (e.books.bals.map balC), .im (e.books.lots.map lotC), .im (e.books.trades.map tradeC), .c (.int .i64 (e.books.lot)), .c (.int .i64 (e.seg)), .c (.int .i64 (e.count))]], .own 0 33 11 (some 1) [[.c (.bool (false)), .c (.int .i64 (0)), .nl, .nl, .nl, .nl, .nl, .nl, .c (.int .i64 (0)), .c (.int .i64 (0)), .c (.int .i64 (0))]], .own 0 24 2 (some 1) [diskC e.disk]] ∧ q = 0) 0 (GC.now ?_) ?_
        · simp only [go_sem, nc_0, true_and]
          skip
        · rintro q f h J hA ⟨e9, rfl, hP⟩ hJ
          simp only [go_sem] at hA
          try dsimp only at hJ
          simp only [go_sem, hA, e9]
          subst hP
          by_cases h0 : 0 < steps
          · have d0 : decide ((0 : Int) < steps) = true := decide_eq_true h0
            have d1 : decide (steps ≤ 4) = false := decide_eq_false (by omega)
            (try simp only [go_sem, hA, e9, hu, cast0, d0, d1]); repeat' (first | (with_reducible first | refine c_split ?_ ?_ | refine w_split ?_ ?_ | refine tw_split ?_ ?_) <;> intro hb <;> try simp only [go_sem, hb, hA, e9, hu, cast0, d0, d1] | (first | with_reducible refine d38_0_LEngTorn (by with_unfolding_all rfl) (by kernel_rfl) ?_ | with_reducible refine fork_at ?_ ?_ | refine call_c (hdn e.disk hs.hn hz _ ?_) | fail) <;> try simp only [go_sem, hA, e9, hu, cast0, d0, d1] | with_reducible refine hQ _ _ ?_ <;> simp only [Tryz.f38, go_sem, hA, e9, hu, cast0, d0, d1])
            exact hk
          · have d0 : decide ((0 : Int) < steps) = false := decide_eq_false h0
            (try simp only [go_sem, hA, e9, hu, cast0, d0]); repeat' (first | (with_reducible first | refine c_split ?_ ?_ | refine w_split ?_ ?_ | refine tw_split ?_ ?_) <;> intro hb <;> try simp only [go_sem, hb, hA, e9, hu, cast0, d0] | (first | with_reducible refine d38_0_LEngTorn (by with_unfolding_all rfl) (by kernel_rfl) ?_ | with_reducible refine fork_at ?_ ?_ | refine call_c (hdn e.disk hs.hn hz _ ?_) | fail) <;> try simp only [go_sem, hA, e9, hu, cast0, d0] | with_reducible refine hQ _ _ ?_ <;> simp only [Tryz.f38, go_sem, hA, e9, hu, cast0, d0])
            exact hk
end Go.Proofs.YtlefjpbhbiajfaaGreat
end
section
namespace Go.Proofs.YtlefjpbhbiajfaaGreat
open Go.BL Go.RowKit
set_option linter.unusedVariables false
set_option linter.unusedSimpArgs false
set_option maxRecDepth 100000
attribute [local go_sem] accountC balC lotC tradeC booksC booksA fileC diskC engC engA saveC
def markedB (b : Books) (k : Int) : List CV := [.im ((marksAccount k b.accounts.length).map accountC), .im ((marksInstr (k + 2 * b.accounts.length) b.instrs.length).map accountC), .im ((marksBal ((k + 2 * b.accounts.length) + 2 * b.instrs.length) b.bals.length).map balC), .im ((marksLot (((k + 2 * b.accounts.length) + 2 * b.instrs.length) + 3 * b.bals.length) b.lots.length).map lotC), .im ((marksTrade ((((k + 2 * b.accounts.length) + 2 * b.instrs.length) + 3 * b.bals.length) + 5 * b.lots.length) b.trades.length).map tradeC), .c (.int .i64 (b.lot))]
theorem markN_ge (b : Books) (k : Int) : k ≤ markN b k := by unfold markN; omega
theorem c_heldBooks (b : Books) (hs : Small b) (k : Int) (hk0 : 0 ≤ k) (hk1 : k ≤ 10000000000) (K : AV → AH → Prop) (hk : K (.one (.c (.int .i64 (markN b k)))) []) : ACalls Tryz.prog 50 [.agg (markedB b k), (.one (.c (.int .i64 (k))))] [] K := by
  have n0 := hs.ha
  have n1 := hs.hi
  have n2 := hs.hb
  have n3 := hs.hl
  have n4 := hs.ht
  have d1 : decide ((k + 2 * b.accounts.length) < 0) = false := decide_eq_false (by omega)
  have d2 : decide (((k + 2 * b.accounts.length) + 2 * b.instrs.length) < 0) = false := decide_eq_false (by omega)
  have d3 : decide ((((k + 2 * b.accounts.length) + 2 * b.instrs.length) + 3 * b.bals.length) < 0) = false := decide_eq_false (by omega)
  have d4 : decide (((((k + 2 * b.accounts.length) + 2 * b.instrs.length) + 3 * b.bals.length) + 5 * b.lots.length) < 0) = false := decide_eq_false (by omega)
  have d5 : decide ((((((k + 2 * b.accounts.length) + 2 * b.instrs.length) + 3 * b.bals.length) + 5 * b.lots.length) + 8 * b.trades.length) < 0) = false := decide_eq_false (by omega)
  refine acall_c Tryz.f50.results.toList mixed Tryz.func50 rfl rfl (by kernel_rfl) ?_
  intro Q hQ hQO
  simp only [go_sem, markedB]
  (try simp only [go_sem, markedB, d1, d2, d3, d4, d5]); repeat' (first | (with_reducible first | refine c_split ?_ ?_ | refine w_split ?_ ?_) <;> intro hb <;> try simp only [go_sem, hb, markedB, d1, d2, d3, d4, d5] | (first | refine call_c (c_heldAccountS b.accounts.length k n0 (by omega) (by omega) _ ?_) | refine call_c (c_heldInstrS b.instrs.length (k + 2 * b.accounts.length) n1 (by omega) (by omega) _ ?_) | refine call_c (c_heldBalS b.bals.length ((k + 2 * b.accounts.length) + 2 * b.instrs.length) n2 (by omega) (by omega) _ ?_) | refine call_c (c_heldLotS b.lots.length (((k + 2 * b.accounts.length) + 2 * b.instrs.length) + 3 * b.bals.length) n3 (by omega) (by omega) _ ?_) | refine call_c (c_heldTradeS b.trades.length ((((k + 2 * b.accounts.length) + 2 * b.instrs.length) + 3 * b.bals.length) + 5 * b.lots.length) n4 (by omega) (by omega) _ ?_) | fail) <;> try simp only [go_sem, markedB, d1, d2, d3, d4, d5] | with_reducible refine hQ _ _ ?_ <;> simp only [Tryz.f50, go_sem, markedB, d1, d2, d3, d4, d5])
  exact hk
def markNE (e : Eng) (k : Int) : Int := markN e.books (k + 3 * e.disk.files.length)
theorem c_markEngine (e : Eng) (hs : SmallE e) (k : Int) (lf l0 l1 l2 l3 l4 gf g0 g1 g2 g3 g4 : Nat) (cf c0 c1 c2 c3 c4 : Option Nat) (h0 : AH) (ef : h0[lf]? = some (.own gf 125 3 cf (e.disk.files.map fileC))) (e0 : h0[l0]? = some (.own g0 129 2 c0 (e.books.accounts.map accountC))) (e1 : h0[l1]? = some (.own g1 131 2 c1 (e.books.instrs.map accountC))) (e2 : h0[l2]? = some (.own g2 134 3 c2 (e.books.bals.map balC))) (e3 : h0[l3]? = some (.own g3 137 5 c3 (e.books.lots.map lotC))) (e4 : h0[l4]? = some (.own g4 140 8 c4 (e.books.trades.map tradeC))) (df0 : lf ≠ l0) (df1 : lf ≠ l1) (df2 : lf ≠ l2) (df3 : lf ≠ l3) (df4 : lf ≠ l4) (d01 : l0 ≠ l1) (d02 : l0 ≠ l2) (d03 : l0 ≠ l3) (d04 : l0 ≠ l4) (d12 : l1 ≠ l2) (d13 : l1 ≠ l3) (d14 : l1 ≠ l4) (d23 : l2 ≠ l3) (d24 : l2 ≠ l4) (d34 : l3 ≠ l4) (hk0 : 0 ≤ k) (hk1 : k ≤ 1000000)
    (K : AV → AH → Prop) (hk : K (.one (.c (.int .i64 (markNE e k)))) ((((((h0.set lf (.own gf 125 3 cf ((marksF k e.disk.files.length).map fileC))).set l0 (.own g0 129 2 c0 ((marksAccount (k + 3 * e.disk.files.length) e.books.accounts.length).map accountC))).set l1 (.own g1 131 2 c1 ((marksInstr ((k + 3 * e.disk.files.length) + 2 * e.books.accounts.length) e.books.instrs.length).map accountC))).set l2 (.own g2 134 3 c2 ((marksBal (((k + 3 * e.disk.files.length) + 2 * e.books.accounts.length) + 2 * e.books.instrs.length) e.books.bals.length).map balC))).set l3 (.own g3 137 5 c3 ((marksLot ((((k + 3 * e.disk.files.length) + 2 * e.books.accounts.length) + 2 * e.books.instrs.length) + 3 * e.books.bals.length) e.books.lots.length).map lotC))).set l4 (.own g4 140 8 c4 ((marksTrade (((((k + 3 * e.disk.files.length) + 2 * e.books.accounts.length) + 2 * e.books.instrs.length) + 3 * e.books.bals.length) + 5 * e.books.lots.length) e.books.trades.length).map tradeC)))) : ACalls Tryz.prog 14 [.agg [.c (.bool (e.up)), .c (.int .i64 (e.disk.room)), .sl lf gf 0 e.disk.files.length, .sl l0 g0 0 e.books.accounts.length, .sl l1 g1 0 e.books.instrs.length, .sl l2 g2 0 e.books.bals.length, .sl l3 g3 0 e.books.lots.length, .sl l4 g4 0 e.books.trades.length, .c (.int .i64 (e.books.lot)), .c (.int .i64 (e.seg)), .c (.int .i64 (e.count))], (.one (.c (.int .i64 (k))))] h0 K := by
  have nf := hs.hn
  refine acall_m Tryz.f14.results.toList mixed Tryz.func14 rfl rfl (by kernel_rfl) ?_
  intro hwf Q hQ
  simp only [go_sem, ef, e0, e1, e2, e3, e4]
  refine call_h (c_markDisk _ e.disk.files k lf gf cf _ (h_old _ ef) nf hk0 (by omega) _ ?_)
  have sf := (List.getElem?_eq_some_iff.1 ef).1
  simp only [go_sem, List.set_append_left _ _ sf]
  have wf1 := fun x r => app_new (h := (h0.set lf (.own gf 125 3 cf ((marksF k e.disk.files.length).map fileC)))) (n := h0.length) (by simp only [List.length_set]) x r
  (try simp only [go_sem, wf1]); repeat' (first | (with_reducible first | refine c_split ?_ ?_ | refine w_split ?_ ?_) <;> intro hb <;> try simp only [go_sem, hb, wf1] | fail)
  have r0 : (h0.set lf (.own gf 125 3 cf ((marksF k e.disk.files.length).map fileC)))[l0]? = some (.own g0 129 2 c0 (e.books.accounts.map accountC)) := set_other df0 e0
  have r1 : (h0.set lf (.own gf 125 3 cf ((marksF k e.disk.files.length).map fileC)))[l1]? = some (.own g1 131 2 c1 (e.books.instrs.map accountC)) := set_other df1 e1
  have r2 : (h0.set lf (.own gf 125 3 cf ((marksF k e.disk.files.length).map fileC)))[l2]? = some (.own g2 134 3 c2 (e.books.bals.map balC)) := set_other df2 e2
  have r3 : (h0.set lf (.own gf 125 3 cf ((marksF k e.disk.files.length).map fileC)))[l3]? = some (.own g3 137 5 c3 (e.books.lots.map lotC)) := set_other df3 e3
  have r4 : (h0.set lf (.own gf 125 3 cf ((marksF k e.disk.files.length).map fileC)))[l4]? = some (.own g4 140 8 c4 (e.books.trades.map tradeC)) := set_other df4 e4
  refine call_h (c_markBooks e.books hs.hb (k + 3 * e.disk.files.length) l0 l1 l2 l3 l4 g0 g1 g2 g3 g4 c0 c1 c2 c3 c4 _ (h_old _ r0) (h_old _ r1) (h_old _ r2) (h_old _ r3) (h_old _ r4) d01 d02 d03 d04 d12 d13 d14 d23 d24 d34 (by omega) (by omega) _ ?_)
  have s0 : l0 < (h0.set lf (.own gf 125 3 cf ((marksF k e.disk.files.length).map fileC))).length := by simp only [List.length_set]; exact (List.getElem?_eq_some_iff.1 e0).1
  have s1 : l1 < ((h0.set lf (.own gf 125 3 cf ((marksF k e.disk.files.length).map fileC))).set l0 (.own g0 129 2 c0 ((marksAccount (k + 3 * e.disk.files.length) e.books.accounts.length).map accountC))).length := by simp only [List.length_set]; exact (List.getElem?_eq_some_iff.1 e1).1
  have s2 : l2 < (((h0.set lf (.own gf 125 3 cf ((marksF k e.disk.files.length).map fileC))).set l0 (.own g0 129 2 c0 ((marksAccount (k + 3 * e.disk.files.length) e.books.accounts.length).map accountC))).set l1 (.own g1 131 2 c1 ((marksInstr ((k + 3 * e.disk.files.length) + 2 * e.books.accounts.length) e.books.instrs.length).map accountC))).length := by simp only [List.length_set]; exact (List.getElem?_eq_some_iff.1 e2).1
  have s3 : l3 < ((((h0.set lf (.own gf 125 3 cf ((marksF k e.disk.files.length).map fileC))).set l0 (.own g0 129 2 c0 ((marksAccount (k + 3 * e.disk.files.length) e.books.accounts.length).map accountC))).set l1 (.own g1 131 2 c1 ((marksInstr ((k + 3 * e.disk.files.length) + 2 * e.books.accounts.length) e.books.instrs.length).map accountC))).set l2 (.own g2 134 3 c2 ((marksBal (((k + 3 * e.disk.files.length) + 2 * e.books.accounts.length) + 2 * e.books.instrs.length) e.books.bals.length).map balC))).length := by simp only [List.length_set]; exact (List.getElem?_eq_some_iff.1 e3).1
  have s4 : l4 < (((((h0.set lf (.own gf 125 3 cf ((marksF k e.disk.files.length).map fileC))).set l0 (.own g0 129 2 c0 ((marksAccount (k + 3 * e.disk.files.length) e.books.accounts.length).map accountC))).set l1 (.own g1 131 2 c1 ((marksInstr ((k + 3 * e.disk.files.length) + 2 * e.books.accounts.length) e.books.instrs.length).map accountC))).set l2 (.own g2 134 3 c2 ((marksBal (((k + 3 * e.disk.files.length) + 2 * e.books.accounts.length) + 2 * e.books.instrs.length) e.books.bals.length).map balC))).set l3 (.own g3 137 5 c3 ((marksLot ((((k + 3 * e.disk.files.length) + 2 * e.books.accounts.length) + 2 * e.books.instrs.length) + 3 * e.books.bals.length) e.books.lots.length).map lotC))).length := by simp only [List.length_set]; exact (List.getElem?_eq_some_iff.1 e4).1
  simp only [go_sem, List.set_append_left _ _ s0, List.set_append_left _ _ s1, List.set_append_left _ _ s2, List.set_append_left _ _ s3, List.set_append_left _ _ s4]
  have hwf : ((((((h0.set lf (.own gf 125 3 cf ((marksF k e.disk.files.length).map fileC))).set l0 (.own g0 129 2 c0 ((marksAccount (k + 3 * e.disk.files.length) e.books.accounts.length).map accountC))).set l1 (.own g1 131 2 c1 ((marksInstr ((k + 3 * e.disk.files.length) + 2 * e.books.accounts.length) e.books.instrs.length).map accountC))).set l2 (.own g2 134 3 c2 ((marksBal (((k + 3 * e.disk.files.length) + 2 * e.books.accounts.length) + 2 * e.books.instrs.length) e.books.bals.length).map balC))).set l3 (.own g3 137 5 c3 ((marksLot ((((k + 3 * e.disk.files.length) + 2 * e.books.accounts.length) + 2 * e.books.instrs.length) + 3 * e.books.bals.length) e.books.lots.length).map lotC))).set l4 (.own g4 140 8 c4 ((marksTrade (((((k + 3 * e.disk.files.length) + 2 * e.books.accounts.length) + 2 * e.books.instrs.length) + 3 * e.books.bals.length) + 5 * e.books.lots.length) e.books.trades.length).map tradeC))).all (ltO h0.length) = true := (wf_at (wf_at (wf_at (wf_at (wf_at (wf_at hwf (by simp only [go_sem])) (by simp only [go_sem])) (by simp only [go_sem])) (by simp only [go_sem])) (by simp only [go_sem])) (by simp only [go_sem]))
  refine hQ (((((((h0.set lf (.own gf 125 3 cf ((marksF k e.disk.files.length).map fileC))).set l0 (.own g0 129 2 c0 ((marksAccount (k + 3 * e.disk.files.length) e.books.accounts.length).map accountC))).set l1 (.own g1 131 2 c1 ((marksInstr ((k + 3 * e.disk.files.length) + 2 * e.books.accounts.length) e.books.instrs.length).map accountC))).set l2 (.own g2 134 3 c2 ((marksBal (((k + 3 * e.disk.files.length) + 2 * e.books.accounts.length) + 2 * e.books.instrs.length) e.books.bals.length).map balC))).set l3 (.own g3 137 5 c3 ((marksLot ((((k + 3 * e.disk.files.length) + 2 * e.books.accounts.length) + 2 * e.books.instrs.length) + 3 * e.books.bals.length) e.books.lots.length).map lotC))).set l4 (.own g4 140 8 c4 ((marksTrade (((((k + 3 * e.disk.files.length) + 2 * e.books.accounts.length) + 2 * e.books.instrs.length) + 3 * e.books.bals.length) + 5 * e.books.lots.length) e.books.trades.length).map tradeC)))) _ _ ?_; refine GC.now (ret_m (by simp only [go_sem, Tryz.f14]; exact _root_.id rfl) (by simp only [go_sem]) (by simp) (by first | exact hwf | exact wf_set hwf (by simp only [go_sem]) | exact wf_set2 hwf (by simp only [go_sem]) (by simp only [go_sem]) | (simp only [go_sem]; done)) (by first | exact ⟨_, _root_.id rfl⟩ | exact ⟨[], (List.append_nil _).symm⟩) ?_) <;> simp only [go_sem]
  exact hk
def markedE (e : Eng) (k : Int) : List CV := [.c (.bool (e.up)), .c (.int .i64 (e.disk.room)), .im ((marksF k e.disk.files.length).map fileC), .im ((marksAccount (k + 3 * e.disk.files.length) e.books.accounts.length).map accountC), .im ((marksInstr ((k + 3 * e.disk.files.length) + 2 * e.books.accounts.length) e.books.instrs.length).map accountC), .im ((marksBal (((k + 3 * e.disk.files.length) + 2 * e.books.accounts.length) + 2 * e.books.instrs.length) e.books.bals.length).map balC), .im ((marksLot ((((k + 3 * e.disk.files.length) + 2 * e.books.accounts.length) + 2 * e.books.instrs.length) + 3 * e.books.bals.length) e.books.lots.length).map lotC), .im ((marksTrade (((((k + 3 * e.disk.files.length) + 2 * e.books.accounts.length) + 2 * e.books.instrs.length) + 3 * e.books.bals.length) + 5 * e.books.lots.length) e.books.trades.length).map tradeC), .c (.int .i64 (e.books.lot)), .c (.int .i64 (e.seg)), .c (.int .i64 (e.count))]
theorem c_heldEngine (e : Eng) (hs : SmallE e) (k : Int) (hk0 : 0 ≤ k) (hk1 : k ≤ 1000000) (K : AV → AH → Prop) (hk : K (.one (.c (.int .i64 (markNE e k)))) []) : ACalls Tryz.prog 15 [.agg (markedE e k), (.one (.c (.int .i64 (k))))] [] K := by
  have nf := hs.hn
  have d1 : decide ((k + 3 * e.disk.files.length) < 0) = false := decide_eq_false (by omega)
  have d2 : decide (markN e.books (k + 3 * e.disk.files.length) < 0) = false := decide_eq_false (by have := markN_ge e.books (k + 3 * e.disk.files.length); omega)
  have cB := fun K' hk' => c_heldBooks e.books hs.hb (k + 3 * e.disk.files.length) (by omega) (by omega) K' hk'
  simp only [markedB] at cB
  refine acall_c Tryz.f15.results.toList mixed Tryz.func15 rfl rfl (by kernel_rfl) ?_
  intro Q hQ hQO
  simp only [go_sem, markedE]
  (try simp only [go_sem, markedE, d1, d2]); repeat' (first | (with_reducible first | refine c_split ?_ ?_ | refine w_split ?_ ?_) <;> intro hb <;> try simp only [go_sem, hb, markedE, d1, d2] | (first | refine call_c (c_heldDisk _ e.disk.files.length k nf hk0 (by omega) _ ?_) | refine call_c (cB _ ?_) | fail) <;> try simp only [go_sem, markedE, d1, d2] | with_reducible refine hQ _ _ ?_ <;> simp only [Tryz.f15, go_sem, markedE, d1, d2])
  exact hk
end Go.Proofs.YtlefjpbhbiajfaaGreat
end
section
namespace Go.Proofs.YtlefjpbhbiajfaaGreat
open Go.BL Go.RowKit
set_option linter.unusedVariables false
set_option linter.unusedSimpArgs false
set_option maxRecDepth 100000
attribute [local go_sem] accountC balC lotC tradeC booksC booksA fileC diskC engC engA ownE
theorem noE_small : SmallE noE := ⟨Nat.zero_le _, ⟨Nat.zero_le _, Nat.zero_le _, Nat.zero_le _, Nat.zero_le _, Nat.zero_le _⟩⟩
theorem crashR_len (d : Disk) (keep : Int) : (crashR d keep).files.length ≤ d.files.length := by
  unfold crashR
  split
  · simp
  · exact Nat.zero_le _
theorem down_small (d : Disk) (keep : Int) (hn : d.files.length ≤ 1000000000) : SmallE (downE d keep) := ⟨Nat.le_trans (crashR_len d keep) hn, ⟨Nat.zero_le _, Nat.zero_le _, Nat.zero_le _, Nat.zero_le _, Nat.zero_le _⟩⟩
theorem markNE_pos (e : Eng) (k : Int) (hk : 0 ≤ k) : decide (markNE e k < 0) = false := decide_eq_false (by have := markN_ge e.books (k + 3 * e.disk.files.length); unfold markNE; omega)
end Go.Proofs.YtlefjpbhbiajfaaGreat
end
section
namespace Go.Proofs.YtlefjpbhbiajfaaGreat
open Go.BL Go.RowKit
set_option linter.unusedVariables false
set_option linter.unusedSimpArgs false
set_option maxRecDepth 100000
attribute [local go_sem] intC byteC
/-! ### As the specification reads -/
end Go.Proofs.YtlefjpbhbiajfaaGreat
end
section
namespace Go.Proofs.YtlefjpbhbiajfaaGreat
open Go.BL Go.RowKit
set_option linter.unusedVariables false
set_option linter.unusedSimpArgs false
set_option maxRecDepth 100000
attribute [local go_sem] accountC balC lotC tradeC booksC intC byteC
def accR (r : List Int) : Account := ⟨r.getD 0 0, r.getD 1 0⟩
def balR (r : List Int) : Bal := ⟨r.getD 0 0, r.getD 1 0, wrap64 (r.getD 2 0 - 1000000000000000)⟩
def lotR (r : List Int) : Lot := ⟨r.getD 0 0, r.getD 1 0, r.getD 2 0, r.getD 3 0, r.getD 4 0⟩
def trdR (r : List Int) : Trade := ⟨r.getD 0 0, r.getD 1 0, r.getD 2 0, r.getD 3 0, r.getD 4 0, r.getD 5 0, r.getD 6 0, r.getD 7 0⟩
end Go.Proofs.YtlefjpbhbiajfaaGreat
end
section
namespace Go.Proofs.YtlefjpbhbiajfaaGreat
open Go.BL Go.RowKit
set_option linter.unusedVariables false
set_option linter.unusedSimpArgs false
set_option maxRecDepth 100000
attribute [local go_sem] accountC balC lotC tradeC booksC intC byteC
abbrev RS := Nat × Bool
def oneS (bs : List UInt8) (s : RS) : Nat × RS := if s.2 = true then (0, (s.1, true)) else match getNum bs s.1 with
  | some (n, m) => (n, (m, false))
  | none => (0, (s.1, true))
def manyS (bs : List UInt8) (most : Nat) (s : RS) : Nat × RS := if most < (oneS bs s).1 then (0, ((oneS bs s).2.1, true)) else oneS bs s
/-! ### Rows -/
def numsS (bs : List UInt8) (s : RS) : Nat → List Int × RS
  | 0 => ([], s)
  | w + 1 => ((numsS bs s w).1 ++ [((oneS bs (numsS bs s w).2).1 : Int)], (oneS bs (numsS bs s w).2).2)
end Go.Proofs.YtlefjpbhbiajfaaGreat
end
section
namespace Go.Proofs.YtlefjpbhbiajfaaGreat
open Go.BL Go.RowKit
set_option linter.unusedVariables false
set_option linter.unusedSimpArgs false
set_option maxRecDepth 100000
attribute [local go_sem] accountC balC lotC tradeC booksC intC byteC booksA
def rowsS (bs : List UInt8) (w : Nat) (s : RS) : Nat → List (List Int) × RS
  | 0 => ([], s)
  | n + 1 => ((rowsS bs w s n).1 ++ [(numsS bs (rowsS bs w s n).2 w).1], (numsS bs (rowsS bs w s n).2 w).2)
def listS (bs : List UInt8) (w most : Nat) (s : RS) : List (List Int) × RS := rowsS bs w (manyS bs most s).2 (manyS bs most s).1
def fin5 (bs : List UInt8) (s : RS) (b : Books) : Option Books := if (oneS bs s).2.2 = true ∨ (oneS bs s).2.1 ≠ bs.length ∨ booksOk { b with lot := ((oneS bs s).1 : Int) } = false then none else some { b with lot := ((oneS bs s).1 : Int) }
def fin4 (bs : List UInt8) (s : RS) (b : Books) : Option Books := fin5 bs (listS bs 8 30 s).2 { b with trades := (listS bs 8 30 s).1.map trdR }
def fin3 (bs : List UInt8) (s : RS) (b : Books) : Option Books := fin4 bs (listS bs 5 120 s).2 { b with lots := (listS bs 5 120 s).1.map lotR }
def fin2 (bs : List UInt8) (s : RS) (b : Books) : Option Books := fin3 bs (listS bs 3 160 s).2 { b with bals := (listS bs 3 160 s).1.map balR }
def fin1 (bs : List UInt8) (s : RS) (b : Books) : Option Books := fin2 bs (listS bs 2 8 s).2 { b with instrs := (listS bs 2 8 s).1.map accR }
end Go.Proofs.YtlefjpbhbiajfaaGreat
end
section
namespace Go.Proofs.YtlefjpbhbiajfaaGreat
open Go.BL Go.RowKit
set_option linter.unusedVariables false
set_option linter.unusedSimpArgs false
set_option maxRecDepth 100000
attribute [local go_sem] accountC balC lotC tradeC booksC booksA saveC byteC fileC diskC engC
/-! ### What the program's reader reads is what the specification's reads -/
end Go.Proofs.YtlefjpbhbiajfaaGreat
end
section
namespace Go.Proofs.YtlefjpbhbiajfaaGreat
open Go.BL Go.RowKit
set_option linter.unusedVariables false
set_option linter.unusedSimpArgs false
set_option maxRecDepth 100000
attribute [local go_sem] accountC balC lotC tradeC booksC booksA saveC byteC fileC diskC
end Go.Proofs.YtlefjpbhbiajfaaGreat
end
section
namespace Go.Proofs.YtlefjpbhbiajfaaGreat
open Go.BL Go.RowKit
set_option linter.unusedVariables false
set_option linter.unusedSimpArgs false
set_option maxRecDepth 100000
attribute [local go_sem] accountC balC lotC tradeC booksC booksA saveC byteC fileC diskC
end Go.Proofs.YtlefjpbhbiajfaaGreat
end
section
namespace Go.Proofs.YtlefjpbhbiajfaaGreat
open Go.BL Go.RowKit
set_option linter.unusedVariables false
set_option linter.unusedSimpArgs false
set_option maxRecDepth 100000
attribute [local go_sem] fileC diskC fileC_len byteC
end Go.Proofs.YtlefjpbhbiajfaaGreat
end
section
namespace Go.Proofs.YtlefjpbhbiajfaaGreat
open Go.BL Go.RowKit
set_option linter.unusedVariables false
set_option linter.unusedSimpArgs false
set_option maxRecDepth 100000
attribute [local go_sem] diskC
end Go.Proofs.YtlefjpbhbiajfaaGreat
end
section
namespace Go.Proofs.YtlefjpbhbiajfaaGreat
open Go.BL Go.RowKit
set_option linter.unusedVariables false
set_option linter.unusedSimpArgs false
set_option maxRecDepth 100000
attribute [local go_sem] accountC balC lotC tradeC booksC booksA fileC diskC saveC
end Go.Proofs.YtlefjpbhbiajfaaGreat
end
section
namespace Go.Proofs.YtlefjpbhbiajfaaGreat
open Go.BL Go.RowKit
set_option linter.unusedVariables false
set_option linter.unusedSimpArgs false
set_option maxRecDepth 100000
attribute [local go_sem] accountC balC lotC tradeC booksC booksA fileC diskC saveC diskR
end Go.Proofs.YtlefjpbhbiajfaaGreat
end
section
namespace Go.Proofs.YtlefjpbhbiajfaaGreat
open Go.BL Go.RowKit
set_option linter.unusedVariables false
set_option linter.unusedSimpArgs false
set_option maxRecDepth 100000
theorem d9_0_LEngTornLaw : DrawL Tryz.prog 0 49 (.on [(0, true, true), (1, false, false), (2, false, false), (3, false, true), (4, false, true)] .nil) := draw_L
attribute [local go_sem] accountC balC lotC tradeC booksC booksA fileC diskC engC engA ownE
theorem tornGo_len (s : Save) : ∀ (f k : Nat) (out : Disk), out.files.length ≤ 1000000000 → SmallF out.files → (tornGo s f k out).files.length ≤ 1000000000
  | 0, _, out, h, _ => h
  | f + 1, k, out, h, hz => by
    rw [tornGo]
    split
    · rename_i h0
      have hg := step_good hz h0
      exact tornGo_len s f (k + 1) _ (Nat.le_trans (good_len hg) (by decide)) (good_small hg)
    · exact h
theorem tornE_small (e : Eng) (steps keep : Int) (hs : SmallE e) (hz : SmallF e.disk.files) : SmallE (tornE e steps keep).1 := by
  unfold tornE
  split
  · split
    · exact down_small _ _ (tornGo_len _ _ _ _ hs.hn hz)
    · exact hs
  · exact noE_small
theorem c_FnExactEngineTornSave (e : Eng) (steps keep : Int) (h : LargeE e) (K : AV → AH → Prop) (hk : K (.one (.c (.bool (true)))) []) : ACalls Tryz.prog 9 [.agg (engC e), (.one (.c (.int .i64 (steps)))), (.one (.c (.int .i64 (keep))))] [] K := by
  refine acall_c Tryz.f9.results.toList mixed Tryz.func9 rfl rfl (by kernel_rfl) ?_
  intro Q hQ hQO
  simp only [go_sem]
  (try simp only [go_sem]); repeat' (first | (with_reducible first | refine c_split ?_ ?_ | refine w_split ?_ ?_) <;> intro hb <;> try simp only [go_sem, hb] | refine call_c (c_szEngine e h _ (fun r hr => ?_)) <;> try simp only [go_sem] | fail)
  · (try simp only [go_sem]); repeat' (first | (with_reducible first | refine c_split ?_ ?_ | refine w_split ?_ ?_ | refine tw_split ?_ ?_) <;> intro hb <;> try simp only [go_sem, hb] | with_reducible refine d9_0_LEngTornLaw (by with_unfolding_all rfl) (by kernel_rfl) ?_ <;> try simp only [go_sem] | with_reducible refine hQ _ _ ?_ <;> simp only [Tryz.f9, go_sem])
    exact hk
  have hs : SmallE e := hr (by have := of_decide_eq_false hb; omega)
  clear hb
  have hz := h.hz
  have hs2 := tornE_small e steps keep hs hz
  have c1 := fun K' hk' => c_spec_EngineTornSave e steps keep hs hz K' hk'
  have c2 := fun K' hk' => c_impl_EngineTornSave e steps keep hs hz K' hk'
  generalize hR : tornE e steps keep = R at hs2 c1 c2
  obtain ⟨e', code⟩ := R
  have m1 := markNE_pos e 1 (by decide)
  have m2 := markNE_pos e' 1 (by decide)
  have cH := fun K' hk' => c_heldEngine e' hs2 1 (by decide) (by decide) K' hk'
  simp only [markedE] at cH
  (try simp only [go_sem, BEq.rfl, bne_self_eq_false, marksF_len, marksF_tk, marksAccount_len, marksAccount_tk, marksInstr_len, marksInstr_tk, marksBal_len, marksBal_tk, marksLot_len, marksLot_tk, marksTrade_len, marksTrade_tk, m1, m2]); repeat' (first | (with_reducible first | refine c_split ?_ ?_ | refine w_split ?_ ?_ | refine tw_split ?_ ?_) <;> intro hb <;> try simp only [go_sem, hb, BEq.rfl, bne_self_eq_false, marksF_len, marksF_tk, marksAccount_len, marksAccount_tk, marksInstr_len, marksInstr_tk, marksBal_len, marksBal_tk, marksLot_len, marksLot_tk, marksTrade_len, marksTrade_tk, m1, m2] | (first | with_reducible refine d9_0_LEngTornLaw (by with_unfolding_all rfl) (by kernel_rfl) ?_ | refine call_c (c_toEngine e hs _ ?_) | refine call_c (c1 _ ?_) | refine call_c (c2 _ ?_) | refine call_c (c_eqEngine e hs _ ?_) | refine call_c (c_eqEngine e' hs2 _ ?_) | refine call_h (c_markEngine e hs 1 8 9 10 11 12 13 0 0 0 0 0 0 _ _ _ _ _ _ _ rfl rfl rfl rfl rfl rfl (by decide) (by decide) (by decide) (by decide) (by decide) (by decide) (by decide) (by decide) (by decide) (by decide) (by decide) (by decide) (by decide) (by decide) (by decide) (by decide) (by decide) _ ?_) | refine call_h (c_markEngine e' hs2 1 15 16 17 18 19 20 0 0 0 0 0 0 _ _ _ _ _ _ _ rfl rfl rfl rfl rfl rfl (by decide) (by decide) (by decide) (by decide) (by decide) (by decide) (by decide) (by decide) (by decide) (by decide) (by decide) (by decide) (by decide) (by decide) (by decide) (by decide) (by decide) _ ?_) | refine call_c (cH _ ?_) | fail) <;> try simp only [go_sem, BEq.rfl, bne_self_eq_false, marksF_len, marksF_tk, marksAccount_len, marksAccount_tk, marksInstr_len, marksInstr_tk, marksBal_len, marksBal_tk, marksLot_len, marksLot_tk, marksTrade_len, marksTrade_tk, m1, m2] | with_reducible refine hQ _ _ ?_ <;> simp only [Tryz.f9, go_sem, BEq.rfl, bne_self_eq_false, marksF_len, marksF_tk, marksAccount_len, marksAccount_tk, marksInstr_len, marksInstr_tk, marksBal_len, marksBal_tk, marksLot_len, marksLot_tk, marksTrade_len, marksTrade_tk, m1, m2])
  all_goals exact hk
end Go.Proofs.YtlefjpbhbiajfaaGreat
end
section
namespace Go.BL
open Go.RowKit Go.ChangeShapes Go.WideShapes Go.ChangeAt Go.Joins Go.Deep
set_option linter.unusedVariables false
set_option linter.unusedSimpArgs false
def MW (W : World) : Im := fun a v => W.cell? a = some v ∧ a.block < W.heap.size
theorem mem_weightsAll {H : Type} {P : Program} {e : TypeId} : ∀ {ds : List (DataW H)} {i : Nat} {d : DataW H}, ds[i]? = some d → ∀ n ∈ d.weights P e, n ∈ DataW.weightsAll P e ds
  | [], i, d, h, _, _ => by simp at h
  | x :: r, 0, d, h, n, hn => by
    simp at h; subst h
    rw [DataW.weightsAll]
    exact List.mem_append_left _ hn
  | x :: r, i + 1, d, h, n, hn => by
    rw [DataW.weightsAll]
    exact List.mem_append_right _ (mem_weightsAll (by simpa using h) n hn)
section
variable {H : Type} {enc0 : TypeId × Value → H} {P : Program} {W : World} {hd : Bool}
def SaysC (W : World) (es : List CV) (cs : List Value) : Prop := cs.length = es.length ∧ ∀ (j : Nat) (c : CV), es[j]? = some c → ∃ u, cs[j]? = some u ∧ V0 (MW W) c u
def Elem {α : Type} (enc0 : TypeId × Value → H) (P : Program) (W : World) (hd : Bool) (e : TypeId) (enc : α → List CV) (good : α → Prop) : Prop :=
  ∀ (fuel : Nat) (cs : List Value) (x : DataW H × List MemPlace), cs.length = P.cellsOf e → DataW.trod enc0 P W 0 (fun _ => true) hd fuel e cs = some x → (∀ n ∈ x.1.weights P e, n ≤ reachBytes) → ∃ y : α, SaysC W (enc y) cs ∧ good y
theorem cell_ok {t e : TypeId} {a : Addr} {len cap : Nat} (ht : P.underlying t = some (.slice e)) (hok : Cell.okWide P W .any 0 t (.slice (some a) len cap)) : a.spot = none ∧ a.block < W.heap.size := by
  simp only [Cell.okWide, ht, Cell.ok] at hok
  obtain ⟨_, _, _, hs, row, cells, hsh, _⟩ := hok
  refine ⟨hs, ?_⟩
  unfold World.shape? at hsh
  split at hsh
  · rename_i q; exact (Array.getElem?_eq_some_iff.1 q).1
  · cases hsh
theorem open_row {α : Type} [Inhabited α] {enc : α → List CV} {good : α → Prop} {t e : TypeId} {k fuel : Nat} {v : Value} {x : DataW H × List MemPlace} (ht : P.underlying t = some (.slice e)) (hk : P.cellsOf e = k) (hek : ∀ y, (enc y).length = k) (hb : 1 ≤ P.bytesOf e)
    (hok : Cell.okWide P W .any 0 t v) (h : DataW.trod enc0 P W 0 (fun _ => true) hd fuel t [v] = some x) (hw : ∀ n ∈ x.1.weights P t, n ≤ reachBytes) (hE : Elem enc0 P W hd e enc good) :
    ∃ xs : List α, V0 (MW W) (.im (xs.map enc)) v ∧ xs.length ≤ 1000000000000000 ∧ ∀ y ∈ xs, good y := by
  rcases Deep.open_slice ht h with ⟨hcs, _⟩ | ⟨a, len, cap, m, n, D, Pl, hcs, _, hlc, hcm, hm, hx, hall⟩
  · simp at hcs
    subst hcs
    exact ⟨[], .im0 _ _, Nat.zero_le _, fun y hy => by simp at hy⟩
  · simp at hcs
    subst hcs
    have hm2 : m = cap := by simpa using hm
    subst hm2
    obtain ⟨hs, hbk⟩ := cell_ok ht hok
    obtain ⟨b, o, s⟩ := a
    simp only at hs hbk
    subst hs
    have hx1 : x.1 = .slice ((List.range len).map D) ((List.range (m - len)).map fun j => D (len + j)) := by rw [hx]
    have hwt : ∀ i, i < len → ∀ n ∈ (D i).weights P e, n ≤ reachBytes := by
      intro i hi n hn
      refine hw n ?_
      rw [hx1]
      simp only [DataW.weights, ht]
      refine List.mem_cons_of_mem _ (List.mem_append_left _ ?_)
      exact mem_weightsAll (i := i) (d := D i) (by simp [hi]) n hn
    have hln : len ≤ 1000000000000000 := by
      have h1 := hw ((len + (m - len)) * P.bytesOf e) (by rw [hx1]; simp [DataW.weights, ht])
      have hr : reachBytes ≤ 1000000000000000 := by decide
      have h2 : len * 1 ≤ (len + (m - len)) * P.bytesOf e := Nat.mul_le_mul (by omega) hb
      omega
    have hf : ∀ i : Nat, ∃ y : α, i < len → good y ∧ ∀ (j : Nat) (c : CV), (enc y)[j]? = some c → ∃ u, W.cell? ⟨b, o + (i * k + j), none⟩ = some u ∧ V0 (MW W) c u := by
      intro i
      by_cases hi : i < len
      · obtain ⟨cs', hcells, htr⟩ := hall i (by omega)
        rw [hk] at hcells
        obtain ⟨_, hl3, hcell⟩ := World.cells?_some hcells
        obtain ⟨y, ⟨hl, hsay⟩, hg⟩ := hE _ _ _ (hl3.trans hk.symm) htr (hwt i hi)
        refine ⟨y, fun _ => ⟨hg, fun j c hc => ?_⟩⟩
        obtain ⟨u, hu, hv⟩ := hsay j c hc
        have hj : j < k := by rw [← hl3]; exact (List.getElem?_eq_some_iff.1 hu).1
        have := hcell j hj
        rw [add_lit, add_lit, Nat.add_assoc] at this
        exact ⟨u, this.trans hu, hv⟩
      · exact ⟨default, fun q => absurd q hi⟩
    obtain ⟨g, hg⟩ := Classical.axiomOfChoice hf
    refine ⟨(List.range len).map g, ?_, by simpa using hln, fun y hy => ?_⟩
    · have hlen : (((List.range len).map g).map enc).length = len := by simp
      have hget : ∀ (i : Nat) (es : List CV), (((List.range len).map g).map enc)[i]? = some es → i < len ∧ es = enc (g i) := fun i es hi => by
        have hil : i < len := by rw [← hlen]; exact (List.getElem?_eq_some_iff.1 hi).1
        refine ⟨hil, ?_⟩
        rw [List.getElem?_map, List.getElem?_map, List.getElem?_range hil] at hi
        exact (Option.some.inj hi).symm
      have := V0.im (M := MW W) (((List.range len).map g).map enc) k b o m (fun i j => (W.cell? ⟨b, o + (i * k + j), none⟩).getD undef) (fun es hes => by
          obtain ⟨y, _, rfl⟩ := List.mem_map.1 hes
          exact hek y) (by rw [hlen]; exact hlc) (fun i es j c hi hj => by
          obtain ⟨hil, rfl⟩ := hget i es hi
          obtain ⟨u, hu, hv⟩ := (hg i hil).2 j c hj
          exact ⟨by rw [hu]; rfl, hbk⟩) (fun i es j c hi hj => by
          obtain ⟨hil, rfl⟩ := hget i es hi
          obtain ⟨u, hu, hv⟩ := (hg i hil).2 j c hj
          rw [hu]; exact hv)
      rw [hlen] at this
      exact this
    · obtain ⟨i, hi, rfl⟩ := List.mem_map.1 hy
      exact (hg i (by simpa using hi)).1
theorem struct_cell {t : TypeId} {cs : Array Value} {ts : List TypeId} {fs : Array Field} (ht : P.underlying t = some (.struct fs)) (hts : P.cellTypes P.depth t = some ts) (hok : Value.okWide P W .any 0 t (.agg cs)) (hl : cs.size = ts.length) (i : Nat) {v : Value} {u : TypeId} (hv : cs[i]? = some v) (hu : ts[i]? = some u) : Cell.okWide P W .any 0 u v := by
  simp only [Value.okWide, ht] at hok
  obtain ⟨cs', hcs, _, ts', hts', _, hc⟩ := hok
  cases hcs
  rw [hts] at hts'
  cases hts'
  obtain ⟨u', hu', hc'⟩ := hc i v hv
  have hil : i < ts.length := (List.getElem?_eq_some_iff.1 hu).1
  rw [Nat.mod_eq_of_lt hil, hu] at hu'
  cases hu'
  exact hc'
theorem reach_le {s : ByteArray} (h : s.data.toList.length ≤ reachBytes) : s.size ≤ 1000000000000000 := by
  have hr : reachBytes ≤ 1000000000000000 := by decide
  have : s.size = s.data.toList.length := rfl
  omega
end
end Go.BL
end
section
namespace Go.Proofs.YtlefjpbhbiajfaaGreat
open Go.BL Go.RowKit
set_option linter.unusedVariables false
set_option linter.unusedSimpArgs false
set_option maxRecDepth 100000
open Go.ChangeShapes Go.WideShapes Go.ChangeAt Go.Joins Go.Deep
section
variable {H : Type} {enc0 : TypeId × Value → H} {W : World} {hd : Bool}
def goodF (f : File) : Prop := f.safe.size ≤ 1000000000000000 ∧ f.late.size ≤ 1000000000000000
instance : Inhabited File := ⟨⟨0, ⟨#[]⟩, ⟨#[]⟩⟩⟩
theorem elem_file : Elem enc0 Tryz.prog W hd 160 fileC goodF := fun fuel cs x hl h hw => by
  have hc : Tryz.prog.cellsOf 160 = 3 := by kernel_rfl
  rw [hc] at hl
  match cs, hl with
  | [u, v, w], _ =>
    obtain ⟨y0, y1, y2, m, rfl, _, h0, h1, h2⟩ := trod_struct3 Tryz.underlying160 h
    have e3 : Tryz.prog.cellsOf 3 = 1 := by kernel_rfl
    have e9 : Tryz.prog.cellsOf 9 = 1 := by kernel_rfl
    simp only [e3, e9, List.drop_zero, List.drop_succ_cons, List.take_succ_cons, List.take_zero] at h0 h1 h2
    obtain ⟨a, rfl, _⟩ := one_int Tryz.underlying3 h0
    obtain ⟨b, hb, eb, _⟩ := DataW.trod_string Tryz.underlying9 h1
    obtain ⟨c, hc, ec, _⟩ := DataW.trod_string Tryz.underlying9 h2
    simp at hb hc
    subst hb hc
    refine ⟨⟨a, b, c⟩, ⟨rfl, fun j z hj => ?_⟩, reach_le (hw _ (by rw [eb]; simp [DataW.weights, Tryz.underlying160, DataW.weightsEach])), reach_le (hw _ (by rw [ec]; simp [DataW.weights, Tryz.underlying160, DataW.weightsEach]))⟩
    rcases j with _ | _ | _ | j
    · simp [fileC] at hj; subst hj; exact ⟨_, rfl, .c _ rfl⟩
    · simp [fileC] at hj; subst hj; exact ⟨_, rfl, .c _ rfl⟩
    · simp [fileC] at hj; subst hj; exact ⟨_, rfl, .c _ rfl⟩
    · simp [fileC] at hj
end
end Go.Proofs.YtlefjpbhbiajfaaGreat
end
section
namespace Go.Proofs.YtlefjpbhbiajfaaGreat
open Go.BL Go.RowKit
set_option linter.unusedVariables false
set_option linter.unusedSimpArgs false
set_option maxRecDepth 100000
open Go.ChangeShapes Go.WideShapes Go.ChangeAt Go.Joins Go.Deep
section
variable {H : Type} {enc0 : TypeId × Value → H} {W : World} {hd : Bool}
theorem elem_Account : Elem enc0 Tryz.prog W hd 213 accountC (fun _ => True) := fun fuel cs x hl h hw => by
  have hc : Tryz.prog.cellsOf 213 = 2 := by kernel_rfl
  rw [hc] at hl
  match cs, hl with
  | [u0, u1], _ =>
    obtain ⟨xs, m, _, rfl, _, hlen, hf⟩ := DataW.trod_struct Tryz.underlying213 h
    match xs, hlen with
    | [y0, y1], _ =>
      have e3 : Tryz.prog.cellsOf 3 = 1 := by kernel_rfl
      have h0 := hf 0 _ rfl
      simp [e3] at h0
      obtain ⟨a0, rfl, _⟩ := one_int Tryz.underlying3 h0
      have h1 := hf 1 _ rfl
      simp [e3] at h1
      obtain ⟨a1, rfl, _⟩ := one_int Tryz.underlying3 h1
      refine ⟨⟨a0, a1⟩, ⟨rfl, fun j z hj => ?_⟩, trivial⟩
      rcases j with _ | _ | j
      · simp [accountC] at hj; subst hj; exact ⟨_, rfl, .c _ rfl⟩
      · simp [accountC] at hj; subst hj; exact ⟨_, rfl, .c _ rfl⟩
      · simp [accountC] at hj
theorem elem_Instr : Elem enc0 Tryz.prog W hd 215 accountC (fun _ => True) := fun fuel cs x hl h hw => by
  have hc : Tryz.prog.cellsOf 215 = 2 := by kernel_rfl
  rw [hc] at hl
  match cs, hl with
  | [u0, u1], _ =>
    obtain ⟨xs, m, _, rfl, _, hlen, hf⟩ := DataW.trod_struct Tryz.underlying215 h
    match xs, hlen with
    | [y0, y1], _ =>
      have e3 : Tryz.prog.cellsOf 3 = 1 := by kernel_rfl
      have h0 := hf 0 _ rfl
      simp [e3] at h0
      obtain ⟨a0, rfl, _⟩ := one_int Tryz.underlying3 h0
      have h1 := hf 1 _ rfl
      simp [e3] at h1
      obtain ⟨a1, rfl, _⟩ := one_int Tryz.underlying3 h1
      refine ⟨⟨a0, a1⟩, ⟨rfl, fun j z hj => ?_⟩, trivial⟩
      rcases j with _ | _ | j
      · simp [accountC] at hj; subst hj; exact ⟨_, rfl, .c _ rfl⟩
      · simp [accountC] at hj; subst hj; exact ⟨_, rfl, .c _ rfl⟩
      · simp [accountC] at hj
theorem elem_Bal : Elem enc0 Tryz.prog W hd 217 balC (fun _ => True) := fun fuel cs x hl h hw => by
  have hc : Tryz.prog.cellsOf 217 = 3 := by kernel_rfl
  rw [hc] at hl
  match cs, hl with
  | [u0, u1, u2], _ =>
    obtain ⟨xs, m, _, rfl, _, hlen, hf⟩ := DataW.trod_struct Tryz.underlying217 h
    match xs, hlen with
    | [y0, y1, y2], _ =>
      have e3 : Tryz.prog.cellsOf 3 = 1 := by kernel_rfl
      have h0 := hf 0 _ rfl
      simp [e3] at h0
      obtain ⟨a0, rfl, _⟩ := one_int Tryz.underlying3 h0
      have h1 := hf 1 _ rfl
      simp [e3] at h1
      obtain ⟨a1, rfl, _⟩ := one_int Tryz.underlying3 h1
      have h2 := hf 2 _ rfl
      simp [e3] at h2
      obtain ⟨a2, rfl, _⟩ := one_int Tryz.underlying3 h2
      refine ⟨⟨a0, a1, a2⟩, ⟨rfl, fun j z hj => ?_⟩, trivial⟩
      rcases j with _ | _ | _ | j
      · simp [balC] at hj; subst hj; exact ⟨_, rfl, .c _ rfl⟩
      · simp [balC] at hj; subst hj; exact ⟨_, rfl, .c _ rfl⟩
      · simp [balC] at hj; subst hj; exact ⟨_, rfl, .c _ rfl⟩
      · simp [balC] at hj
theorem elem_Lot : Elem enc0 Tryz.prog W hd 219 lotC (fun _ => True) := fun fuel cs x hl h hw => by
  have hc : Tryz.prog.cellsOf 219 = 5 := by kernel_rfl
  rw [hc] at hl
  match cs, hl with
  | [u0, u1, u2, u3, u4], _ =>
    obtain ⟨xs, m, _, rfl, _, hlen, hf⟩ := DataW.trod_struct Tryz.underlying219 h
    match xs, hlen with
    | [y0, y1, y2, y3, y4], _ =>
      have e3 : Tryz.prog.cellsOf 3 = 1 := by kernel_rfl
      have h0 := hf 0 _ rfl
      simp [e3] at h0
      obtain ⟨a0, rfl, _⟩ := one_int Tryz.underlying3 h0
      have h1 := hf 1 _ rfl
      simp [e3] at h1
      obtain ⟨a1, rfl, _⟩ := one_int Tryz.underlying3 h1
      have h2 := hf 2 _ rfl
      simp [e3] at h2
      obtain ⟨a2, rfl, _⟩ := one_int Tryz.underlying3 h2
      have h3 := hf 3 _ rfl
      simp [e3] at h3
      obtain ⟨a3, rfl, _⟩ := one_int Tryz.underlying3 h3
      have h4 := hf 4 _ rfl
      simp [e3] at h4
      obtain ⟨a4, rfl, _⟩ := one_int Tryz.underlying3 h4
      refine ⟨⟨a0, a1, a2, a3, a4⟩, ⟨rfl, fun j z hj => ?_⟩, trivial⟩
      rcases j with _ | _ | _ | _ | _ | j
      · simp [lotC] at hj; subst hj; exact ⟨_, rfl, .c _ rfl⟩
      · simp [lotC] at hj; subst hj; exact ⟨_, rfl, .c _ rfl⟩
      · simp [lotC] at hj; subst hj; exact ⟨_, rfl, .c _ rfl⟩
      · simp [lotC] at hj; subst hj; exact ⟨_, rfl, .c _ rfl⟩
      · simp [lotC] at hj; subst hj; exact ⟨_, rfl, .c _ rfl⟩
      · simp [lotC] at hj
theorem elem_Trade : Elem enc0 Tryz.prog W hd 221 tradeC (fun _ => True) := fun fuel cs x hl h hw => by
  have hc : Tryz.prog.cellsOf 221 = 8 := by kernel_rfl
  rw [hc] at hl
  match cs, hl with
  | [u0, u1, u2, u3, u4, u5, u6, u7], _ =>
    obtain ⟨xs, m, _, rfl, _, hlen, hf⟩ := DataW.trod_struct Tryz.underlying221 h
    match xs, hlen with
    | [y0, y1, y2, y3, y4, y5, y6, y7], _ =>
      have e3 : Tryz.prog.cellsOf 3 = 1 := by kernel_rfl
      have h0 := hf 0 _ rfl
      simp [e3] at h0
      obtain ⟨a0, rfl, _⟩ := one_int Tryz.underlying3 h0
      have h1 := hf 1 _ rfl
      simp [e3] at h1
      obtain ⟨a1, rfl, _⟩ := one_int Tryz.underlying3 h1
      have h2 := hf 2 _ rfl
      simp [e3] at h2
      obtain ⟨a2, rfl, _⟩ := one_int Tryz.underlying3 h2
      have h3 := hf 3 _ rfl
      simp [e3] at h3
      obtain ⟨a3, rfl, _⟩ := one_int Tryz.underlying3 h3
      have h4 := hf 4 _ rfl
      simp [e3] at h4
      obtain ⟨a4, rfl, _⟩ := one_int Tryz.underlying3 h4
      have h5 := hf 5 _ rfl
      simp [e3] at h5
      obtain ⟨a5, rfl, _⟩ := one_int Tryz.underlying3 h5
      have h6 := hf 6 _ rfl
      simp [e3] at h6
      obtain ⟨a6, rfl, _⟩ := one_int Tryz.underlying3 h6
      have h7 := hf 7 _ rfl
      simp [e3] at h7
      obtain ⟨a7, rfl, _⟩ := one_int Tryz.underlying3 h7
      refine ⟨⟨a0, a1, a2, a3, a4, a5, a6, a7⟩, ⟨rfl, fun j z hj => ?_⟩, trivial⟩
      rcases j with _ | _ | _ | _ | _ | _ | _ | _ | j
      · simp [tradeC] at hj; subst hj; exact ⟨_, rfl, .c _ rfl⟩
      · simp [tradeC] at hj; subst hj; exact ⟨_, rfl, .c _ rfl⟩
      · simp [tradeC] at hj; subst hj; exact ⟨_, rfl, .c _ rfl⟩
      · simp [tradeC] at hj; subst hj; exact ⟨_, rfl, .c _ rfl⟩
      · simp [tradeC] at hj; subst hj; exact ⟨_, rfl, .c _ rfl⟩
      · simp [tradeC] at hj; subst hj; exact ⟨_, rfl, .c _ rfl⟩
      · simp [tradeC] at hj; subst hj; exact ⟨_, rfl, .c _ rfl⟩
      · simp [tradeC] at hj; subst hj; exact ⟨_, rfl, .c _ rfl⟩
      · simp [tradeC] at hj
end
end Go.Proofs.YtlefjpbhbiajfaaGreat
end
section
namespace Go.Proofs.YtlefjpbhbiajfaaGreat
open Go.BL Go.RowKit
set_option linter.unusedVariables false
set_option linter.unusedSimpArgs false
set_option maxRecDepth 100000
open Go.ChangeShapes Go.WideShapes Go.ChangeAt Go.Joins Go.Deep
section
variable {H : Type} {enc0 : TypeId × Value → H} {W : World} {hd : Bool}
theorem open_booksC {fuel : Nat} {v0 v1 v2 v3 v4 v5 : Value} {x : DataW H × List MemPlace} (k0 : Cell.okWide Tryz.prog W .any 0 41 v0) (k1 : Cell.okWide Tryz.prog W .any 0 42 v1) (k2 : Cell.okWide Tryz.prog W .any 0 43 v2) (k3 : Cell.okWide Tryz.prog W .any 0 44 v3) (k4 : Cell.okWide Tryz.prog W .any 0 45 v4) (h : DataW.trod enc0 Tryz.prog W 0 (fun _ => true) hd fuel 47 [v0, v1, v2, v3, v4, v5] = some x) (hw : ∀ n ∈ x.1.weights Tryz.prog 47, n ≤ reachBytes) : ∃ b : Books, SaysC W (booksC b) [v0, v1, v2, v3, v4, v5] ∧ Large b := by
  obtain ⟨xs, m, _, rfl, _, hlen, hfs⟩ := DataW.trod_struct Tryz.underlying47 h
  match xs, hlen with
  | [y0, y1, y2, y3, y4, y5], _ =>
    have e0 : Tryz.prog.cellsOf 41 = 1 := by kernel_rfl
    have e1 : Tryz.prog.cellsOf 42 = 1 := by kernel_rfl
    have e2 : Tryz.prog.cellsOf 43 = 1 := by kernel_rfl
    have e3 : Tryz.prog.cellsOf 44 = 1 := by kernel_rfl
    have e4 : Tryz.prog.cellsOf 45 = 1 := by kernel_rfl
    have e5 : Tryz.prog.cellsOf 3 = 1 := by kernel_rfl
    have g0 := hfs 0 _ rfl
    simp [e0] at g0
    obtain ⟨x0, X0, L0, _⟩ := open_row (k := 2) Tryz.underlying41 (by kernel_rfl) (fun _ => rfl) (of_decide_eq_true (by kernel_rfl)) k0 g0 (fun n hn => hw n (by
      simp only [DataW.weights, Tryz.underlying47, List.map_cons, List.map_nil, DataW.weightsEach]
      exact List.mem_append_left _ hn)) (elem_Account (enc0 := enc0))
    have g1 := hfs 1 _ rfl
    simp [e1] at g1
    obtain ⟨x1, X1, L1, _⟩ := open_row (k := 2) Tryz.underlying42 (by kernel_rfl) (fun _ => rfl) (of_decide_eq_true (by kernel_rfl)) k1 g1 (fun n hn => hw n (by
      simp only [DataW.weights, Tryz.underlying47, List.map_cons, List.map_nil, DataW.weightsEach]
      exact List.mem_append_right _ (List.mem_append_left _ hn))) (elem_Instr (enc0 := enc0))
    have g2 := hfs 2 _ rfl
    simp [e2] at g2
    obtain ⟨x2, X2, L2, _⟩ := open_row (k := 3) Tryz.underlying43 (by kernel_rfl) (fun _ => rfl) (of_decide_eq_true (by kernel_rfl)) k2 g2 (fun n hn => hw n (by
      simp only [DataW.weights, Tryz.underlying47, List.map_cons, List.map_nil, DataW.weightsEach]
      exact List.mem_append_right _ (List.mem_append_right _ (List.mem_append_left _ hn)))) (elem_Bal (enc0 := enc0))
    have g3 := hfs 3 _ rfl
    simp [e3] at g3
    obtain ⟨x3, X3, L3, _⟩ := open_row (k := 5) Tryz.underlying44 (by kernel_rfl) (fun _ => rfl) (of_decide_eq_true (by kernel_rfl)) k3 g3 (fun n hn => hw n (by
      simp only [DataW.weights, Tryz.underlying47, List.map_cons, List.map_nil, DataW.weightsEach]
      exact List.mem_append_right _ (List.mem_append_right _ (List.mem_append_right _ (List.mem_append_left _ hn))))) (elem_Lot (enc0 := enc0))
    have g4 := hfs 4 _ rfl
    simp [e4] at g4
    obtain ⟨x4, X4, L4, _⟩ := open_row (k := 8) Tryz.underlying45 (by kernel_rfl) (fun _ => rfl) (of_decide_eq_true (by kernel_rfl)) k4 g4 (fun n hn => hw n (by
      simp only [DataW.weights, Tryz.underlying47, List.map_cons, List.map_nil, DataW.weightsEach]
      exact List.mem_append_right _ (List.mem_append_right _ (List.mem_append_right _ (List.mem_append_right _ (List.mem_append_left _ hn)))))) (elem_Trade (enc0 := enc0))
    have g5 := hfs 5 _ rfl
    simp [e5] at g5
    obtain ⟨lot, rfl, _⟩ := one_int Tryz.underlying3 g5
    refine ⟨⟨x0, x1, x2, x3, x4, lot⟩, ⟨rfl, fun j x hj => ?_⟩, ⟨L0, L1, L2, L3, L4⟩⟩
    rcases j with _ | _ | _ | _ | _ | _ | j
    · simp [booksC] at hj; subst hj; exact ⟨_, rfl, X0⟩
    · simp [booksC] at hj; subst hj; exact ⟨_, rfl, X1⟩
    · simp [booksC] at hj; subst hj; exact ⟨_, rfl, X2⟩
    · simp [booksC] at hj; subst hj; exact ⟨_, rfl, X3⟩
    · simp [booksC] at hj; subst hj; exact ⟨_, rfl, X4⟩
    · simp [booksC] at hj; subst hj; exact ⟨_, rfl, .c _ rfl⟩
    · simp [booksC] at hj
theorem open_diskC {fuel : Nat} {v0 v1 : Value} {x : DataW H × List MemPlace} (k1 : Cell.okWide Tryz.prog W .any 0 38 v1) (h : DataW.trod enc0 Tryz.prog W 0 (fun _ => true) hd fuel 40 [v0, v1] = some x) (hw : ∀ n ∈ x.1.weights Tryz.prog 40, n ≤ reachBytes) : ∃ d : Disk, SaysC W (diskC d) [v0, v1] ∧ SizedF d.files ∧ d.files.length ≤ 1000000000000000 := by
  obtain ⟨xs, m, _, rfl, _, hlen, hfs⟩ := DataW.trod_struct Tryz.underlying40 h
  match xs, hlen with
  | [y0, y1], _ =>
    have e0 : Tryz.prog.cellsOf 3 = 1 := by kernel_rfl
    have e1 : Tryz.prog.cellsOf 38 = 1 := by kernel_rfl
    have g0 := hfs 0 _ rfl
    simp [e0] at g0
    have g1 := hfs 1 _ rfl
    simp [e1] at g1
    obtain ⟨room, rfl, _⟩ := one_int Tryz.underlying3 g0
    obtain ⟨fs, hx, hl, hg⟩ := open_row (k := 3) Tryz.underlying38 (by kernel_rfl) fileC_len (of_decide_eq_true (by kernel_rfl)) k1 g1 (fun n hn => hw n (by
      simp only [DataW.weights, Tryz.underlying40, List.map_cons, List.map_nil, DataW.weightsEach]
      exact List.mem_append_right _ (List.mem_append_left _ hn))) (elem_file (enc0 := enc0))
    refine ⟨⟨room, fs⟩, ⟨rfl, fun j x hj => ?_⟩, hg, hl⟩
    rcases j with _ | _ | j
    · simp [diskC] at hj; subst hj; exact ⟨_, rfl, .c _ rfl⟩
    · simp [diskC] at hj; subst hj; exact ⟨_, rfl, hx⟩
    · simp [diskC] at hj
theorem open_engine {v : Value} {d : DataW H} {p : List MemPlace} (hok : Value.okWide Tryz.prog W .any 0 49 v) (h : DataW.Trod enc0 Tryz.prog W 0 (fun _ => true) hd 49 v d p) (hw : ∀ n ∈ d.weights Tryz.prog 49, n ≤ reachBytes) :
    ∃ e : Eng, VA (fun _ => none) (MW W) (.agg (engC e)) v ∧ LargeE e := by
  obtain ⟨cs, rfl, hsz⟩ := okWide_struct Tryz.underlying49 hok
  have hcn : Tryz.prog.cellsOf 49 = 11 := by kernel_rfl
  rw [hcn] at hsz
  obtain ⟨l⟩ := cs
  match l, hsz with
  | [v0, v1, v2, v3, v4, v5, v6, v7, v8, v9, v10], _ =>
    obtain ⟨fuel, hf⟩ := h
    obtain ⟨xs, m, _, hx, _, hlen, hfs⟩ := DataW.trod_struct Tryz.underlying49 hf
    match xs, hlen with
    | [y0, y1, y2, y3, y4], _ =>
      simp only [Prod.mk.injEq] at hx
      obtain ⟨rfl, rfl⟩ := hx
      have e0 : Tryz.prog.cellsOf 4 = 1 := by kernel_rfl
      have g0 := hfs 0 _ rfl
      simp [Value.cells, e0] at g0
      obtain ⟨a0, ha0, _⟩ := DataW.trod_bool Tryz.underlying4 g0
      simp at ha0
      subst ha0
      have e1 : Tryz.prog.cellsOf 40 = 2 := by kernel_rfl
      have g1 := hfs 1 _ rfl
      simp [Value.cells, e1] at g1
      obtain ⟨a1, S1, Z1, N1⟩ := open_diskC (struct_cell (i := 2) Tryz.underlying49 (ts := [4, 3, 38, 41, 42, 43, 44, 45, 3, 3, 3]) (by kernel_rfl) hok rfl rfl rfl) g1 (fun n hn => hw n (by
        simp only [DataW.weights, Tryz.underlying49, List.map_cons, List.map_nil, DataW.weightsEach]
        exact List.mem_append_right _ (List.mem_append_left _ hn)))
      have e2 : Tryz.prog.cellsOf 47 = 6 := by kernel_rfl
      have g2 := hfs 2 _ rfl
      simp [Value.cells, e2] at g2
      obtain ⟨a2, S2, L2⟩ := open_booksC (struct_cell (i := 3) Tryz.underlying49 (ts := [4, 3, 38, 41, 42, 43, 44, 45, 3, 3, 3]) (by kernel_rfl) hok rfl rfl rfl) (struct_cell (i := 4) Tryz.underlying49 (ts := [4, 3, 38, 41, 42, 43, 44, 45, 3, 3, 3]) (by kernel_rfl) hok rfl rfl rfl) (struct_cell (i := 5) Tryz.underlying49 (ts := [4, 3, 38, 41, 42, 43, 44, 45, 3, 3, 3]) (by kernel_rfl) hok rfl rfl rfl) (struct_cell (i := 6) Tryz.underlying49 (ts := [4, 3, 38, 41, 42, 43, 44, 45, 3, 3, 3]) (by kernel_rfl) hok rfl rfl rfl) (struct_cell (i := 7) Tryz.underlying49 (ts := [4, 3, 38, 41, 42, 43, 44, 45, 3, 3, 3]) (by kernel_rfl) hok rfl rfl rfl) g2 (fun n hn => hw n (by
        simp only [DataW.weights, Tryz.underlying49, List.map_cons, List.map_nil, DataW.weightsEach]
        exact List.mem_append_right _ (List.mem_append_right _ (List.mem_append_left _ hn))))
      have e3 : Tryz.prog.cellsOf 3 = 1 := by kernel_rfl
      have g3 := hfs 3 _ rfl
      simp [Value.cells, e3] at g3
      obtain ⟨a3, rfl, _⟩ := one_int Tryz.underlying3 g3
      have e4 : Tryz.prog.cellsOf 3 = 1 := by kernel_rfl
      have g4 := hfs 4 _ rfl
      simp [Value.cells, e4] at g4
      obtain ⟨a4, rfl, _⟩ := one_int Tryz.underlying3 g4
      refine ⟨⟨a0, a1, a2, a3, a4⟩, ⟨[.bool a0, v1, v2, v3, v4, v5, v6, v7, v8, .int .i64 a3, .int .i64 a4], rfl, rfl, fun j x hj => ?_⟩, ⟨Z1, N1, L2⟩⟩
      rcases j with _ | _ | _ | _ | _ | _ | _ | _ | _ | _ | _ | j
      · simp [engC] at hj; subst hj; exact ⟨_, rfl, .c _ rfl⟩
      · simp [engC] at hj; subst hj; exact S1.2 0 _ rfl
      · simp [engC] at hj; subst hj; exact S1.2 1 _ rfl
      · simp [engC] at hj; subst hj; exact S2.2 0 _ rfl
      · simp [engC] at hj; subst hj; exact S2.2 1 _ rfl
      · simp [engC] at hj; subst hj; exact S2.2 2 _ rfl
      · simp [engC] at hj; subst hj; exact S2.2 3 _ rfl
      · simp [engC] at hj; subst hj; exact S2.2 4 _ rfl
      · simp [engC] at hj; subst hj; exact S2.2 5 _ rfl
      · simp [engC] at hj; subst hj; exact ⟨_, rfl, .c _ rfl⟩
      · simp [engC] at hj; subst hj; exact ⟨_, rfl, .c _ rfl⟩
      · simp [engC] at hj
end
end Go.Proofs.YtlefjpbhbiajfaaGreat
end
