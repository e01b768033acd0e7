/- Move: a file under another name, a file that is dropped. Conditions: none. -/
import Derived.Test.YtaahlnjldenhpaaLG
import Derived.Test.YtaahlnjldenhpaaLT
import Derived.Test.YtaahlnjldenhpaaLDraw
namespace Go.Proofs.Ytaahlnjldenhpaa
open Go.BL Go.RowKit
set_option linter.unusedVariables false
set_option linter.unusedSimpArgs false
set_option maxRecDepth 100000
attribute [local go_sem] fileC diskC fileC_len diskR
theorem lessF_erase : ∀ (fs : List File) (i : Nat) (hi : i < fs.length) (name : Int), SortedF fs → fs[i].name = name → fs.eraseIdx i = lessF fs name
  | g :: r, 0, _, name, hs, h => by
    simp only [List.getElem_cons_zero] at h
    have hs2 := List.pairwise_cons.1 hs
    have : lessF r name = r := List.filter_eq_self.2 fun x hx => by have := hs2.1 x hx; simp; omega
    rw [lessF, List.filter_cons_of_neg (by simp [h])]
    exact this.symm
  | g :: r, i + 1, hi, name, hs, h => by
    simp only [List.getElem_cons_succ] at h
    have hs2 := List.pairwise_cons.1 hs
    have hi' : i < r.length := by simpa using hi
    have h1 := hs2.1 r[i] (List.getElem_mem hi')
    rw [lessF, List.filter_cons_of_pos (by simp; omega), List.eraseIdx_cons_succ, lessF_erase r i hi' name hs2.2 h]
    rfl
theorem less_sorted {fs : List File} (name : Int) (h : SortedF fs) : SortedF (lessF fs name) := List.Pairwise.sublist List.filter_sublist h
theorem less_len (fs : List File) (name : Int) : (lessF fs name).length ≤ fs.length := List.length_filter_le _ _
theorem less_no (fs : List File) (name : Int) : ∀ g ∈ lessF fs name, g.name ≠ name := fun g hg => by
  have := (List.mem_filter.1 hg).2
  simpa using this
theorem less_mem {fs : List File} {name : Int} {g : File} (h : g ∈ lessF fs name) : g ∈ fs := (List.mem_filter.1 h).1
theorem putF_less (fs : List File) (x : File) : putF (lessF fs x.name) x = putF fs x := by
  simp only [putF, lessF, List.filter_filter]
  have h1 : ∀ g : File, (decide (g.name < x.name) && !(g.name == x.name)) = decide (g.name < x.name) := fun g => by
    by_cases h : g.name < x.name
    · have : ¬ g.name = x.name := by omega
      simp [h, this]
    · simp [h]
  have h2 : ∀ g : File, (decide (x.name < g.name) && !(g.name == x.name)) = decide (x.name < g.name) := fun g => by
    by_cases h : x.name < g.name
    · have : ¬ g.name = x.name := by omega
      simp [h, this]
    · simp [h]
  simp only [h1, h2]
def moveOk (d : Disk) (a b : Int) : Prop := diskOk d = true ∧ (0 ≤ a ∧ a ≤ 21) ∧ (0 ≤ b ∧ b ≤ 21) ∧ a ≠ b
instance (d : Disk) (a b : Int) : Decidable (moveOk d a b) := by unfold moveOk; exact inferInstance
def moveR (d : Disk) (a b : Int) : Disk × Int := if moveOk d a b then (match d.files.find? (fun f => f.name == a) with | some f => (⟨d.room, putF (lessF d.files a) ⟨b, f.safe, f.late⟩⟩, 0) | none => (d, 2)) else (⟨0, []⟩, 1)
def dropR (d : Disk) (name : Int) : Disk × Int := if diskOk d = true ∧ 0 ≤ name ∧ name ≤ 21 then (match d.files.find? (fun f => f.name == name) with | some _ => (⟨d.room, lessF d.files name⟩, 0) | none => (d, 2)) else (⟨0, []⟩, 1)
theorem o_spec_DiskDrop (d : Disk) (name : Int) (hn : d.files.length ≤ 1000000000) (hz : SmallF d.files) (K : AV → AH → Prop)
    (hk : K (.tup [.agg [.c (.int .i64 ((dropR d name).1.room)), .sl 0 0 0 (dropR d name).1.files.length], (.one (.c (.int .i64 ((dropR d name).2))))]) [.own 0 55 3 none ((dropR d name).1.files.map fileC)]) : ACalls Try.prog 88 [.agg (diskC d), (.one (.c (.int .i64 (name))))] [] K := by
  refine acall_c Try.f88.results.toList mixed Try.func88 rfl rfl (by kernel_rfl) ?_
  intro Q hQ hQO
  simp only [go_sem]
  refine call_c (c_l14At d name hn _ ?_)
  rcases atR_cases d name with ⟨ok, h1⟩ | ⟨ok, ⟨h1, h2⟩ | ⟨i, hi, h1, h3, h2⟩⟩
  · rw [dropR, if_neg ok] at hk
    (try simp only [go_sem, h1]); repeat' (first | (with_reducible refine c_split (fun hb => ?_) (fun hb => ?_) <;> try simp only [go_sem, hb, h1]) | (with_reducible refine w_split (fun hb => ?_) (fun hb => ?_) <;> try simp only [go_sem, hb, h1]) | (refine call_c (o_l14Refused d 1 hn _ ?_) <;> try simp only [go_sem, h1]) | (fail))
    refine hQO [2] _ _ (GC.now ?_) <;> simp only [Try.f88, go_sem, List.nodup_cons, List.nodup_nil, List.mem_cons, List.not_mem_nil, or_false, not_false_eq_true, List.idxOf?_cons, List.idxOf?_nil, Option.map_none, fileC_tk]
    exact hk
  · rw [dropR, if_pos ok, h2] at hk
    simp only at hk
    (try simp only [go_sem, h1]); repeat' (first | (with_reducible refine c_split (fun hb => ?_) (fun hb => ?_) <;> try simp only [go_sem, hb, h1]) | (with_reducible refine w_split (fun hb => ?_) (fun hb => ?_) <;> try simp only [go_sem, hb, h1]) | (refine call_c (o_l14Refused d 2 hn _ ?_) <;> try simp only [go_sem, h1]) | (fail))
    refine hQO [2] _ _ (GC.now ?_) <;> simp only [Try.f88, go_sem, List.nodup_cons, List.nodup_nil, List.mem_cons, List.not_mem_nil, or_false, not_false_eq_true, List.idxOf?_cons, List.idxOf?_nil, Option.map_none, fileC_tk]
    exact hk
  · rw [dropR, if_pos ok, h2] at hk
    simp only [← lessF_erase d.files i hi name (disk_sorted ok.1) h3] at hk
    (try simp only [go_sem, h1, BEq.rfl]); repeat' (first | (with_reducible refine c_split (fun hb => ?_) (fun hb => ?_) <;> try simp only [go_sem, hb, h1, BEq.rfl]) | (with_reducible refine w_split (fun hb => ?_) (fun hb => ?_) <;> try simp only [go_sem, hb, h1, BEq.rfl]) | (refine call_c (o_l14Less d i hn _ ?_) <;> try simp only [go_sem, h1, BEq.rfl]) | (fail))
    refine hQO [2] _ _ (GC.now ?_) <;> simp only [Try.f88, go_sem, List.nodup_cons, List.nodup_nil, List.mem_cons, List.not_mem_nil, or_false, not_false_eq_true, List.idxOf?_cons, List.idxOf?_nil, Option.map_none, fileC_tk]
    exact hk
theorem o_spec_DiskMove (d : Disk) (a b : Int) (hn : d.files.length ≤ 1000000000) (hz : SmallF d.files) (K : AV → AH → Prop)
    (hk : K (.tup [.agg [.c (.int .i64 ((moveR d a b).1.room)), .sl 0 0 0 (moveR d a b).1.files.length], (.one (.c (.int .i64 ((moveR d a b).2))))]) [.own 0 55 3 none ((moveR d a b).1.files.map fileC)]) : ACalls Try.prog 87 [.agg (diskC d), (.one (.c (.int .i64 (a)))), (.one (.c (.int .i64 (b))))] [] K := by
  refine acall_c Try.f87.results.toList mixed Try.func87 rfl rfl (by kernel_rfl) ?_
  intro Q hQ hQO
  simp only [go_sem]
  refine call_c (c_l14At d a hn _ ?_)
  by_cases hm : moveOk d a b
  · rw [moveR, if_pos hm] at hk
    have q1 : decide (0 ≤ b ∧ b ≤ 21) = true := decide_eq_true hm.2.2.1
    have q2 : (a == b) = false := by simpa using hm.2.2.2
    rcases atR_cases d a with ⟨ok, h1⟩ | ⟨ok, ⟨h1, h2⟩ | ⟨i, hi, h1, h3, h2⟩⟩
    · exact absurd ⟨hm.1, hm.2.1⟩ ok
    · rw [h2] at hk
      simp only at hk
      (try simp only [go_sem, h1, q1, q2]); repeat' (first | (with_reducible refine c_split (fun hb => ?_) (fun hb => ?_) <;> try simp only [go_sem, hb, h1, q1, q2]) | (with_reducible refine w_split (fun hb => ?_) (fun hb => ?_) <;> try simp only [go_sem, hb, h1, q1, q2]) | (with_reducible refine tw_split (fun hb => ?_) (fun hb => ?_) <;> try simp only [go_sem, hb, h1, q1, q2]) | (with_reducible refine draw_at 0 38 (by with_unfolding_all rfl) [(0, true, true), (1, true, false), (3, true, false), (2, false, false), (4, false, false), (5, false, true), (6, false, true)] (by kernel_rfl) ?_ <;> try simp only [go_sem, h1, q1, q2]) | (refine call_c (c_l14Name _ _ ?_) <;> try simp only [go_sem, h1, q1, q2]) | (refine call_c (o_l14Refused d 2 hn _ ?_) <;> try simp only [go_sem, h1, q1, q2]) | (fail))
      refine hQO [2] _ _ (GC.now ?_) <;> simp only [Try.f87, go_sem, List.nodup_cons, List.nodup_nil, List.mem_cons, List.not_mem_nil, or_false, not_false_eq_true, List.idxOf?_cons, List.idxOf?_nil, Option.map_none, fileC_tk]
      exact hk
    · rw [h2] at hk
      simp only [← lessF_erase d.files i hi a (disk_sorted ok.1) h3] at hk
      have hg : d.files[i]? = some d.files[i] := List.getElem?_eq_getElem hi
      have hln : (d.files.eraseIdx i).length ≤ 1000000000 := Nat.le_trans (List.length_eraseIdx_le _ _) hn
      have hso : SortedF (d.files.eraseIdx i) := List.Pairwise.sublist (List.eraseIdx_sublist _ _) (disk_sorted ok.1)
      (try simp only [go_sem, h1, q1, q2, hg, BEq.rfl]); repeat' (first | (with_reducible refine c_split (fun hb => ?_) (fun hb => ?_) <;> try simp only [go_sem, hb, h1, q1, q2, hg, BEq.rfl]) | (with_reducible refine w_split (fun hb => ?_) (fun hb => ?_) <;> try simp only [go_sem, hb, h1, q1, q2, hg, BEq.rfl]) | (with_reducible refine tw_split (fun hb => ?_) (fun hb => ?_) <;> try simp only [go_sem, hb, h1, q1, q2, hg, BEq.rfl]) | (with_reducible refine draw_at 0 38 (by with_unfolding_all rfl) [(0, true, true), (1, true, false), (3, true, false), (2, false, false), (4, false, false), (5, false, true), (6, false, true)] (by kernel_rfl) ?_ <;> try simp only [go_sem, h1, q1, q2, hg, BEq.rfl]) | (refine call_c (c_l14Name _ _ ?_) <;> try simp only [go_sem, h1, q1, q2, hg, BEq.rfl]) | (refine call_c (c_l14Less d i hn _ ?_) <;> try simp only [go_sem, h1, q1, q2, hg, BEq.rfl]) | (fail))
      refine call_c (o_l14Put ⟨d.room, d.files.eraseIdx i⟩ ⟨b, d.files[i].safe, d.files[i].late⟩ hln hso _ ?_)
      (try simp only [go_sem]); repeat' (first | (with_reducible refine c_split (fun hb => ?_) (fun hb => ?_) <;> try simp only [go_sem, hb]) | (with_reducible refine w_split (fun hb => ?_) (fun hb => ?_) <;> try simp only [go_sem, hb]) | (with_reducible refine tw_split (fun hb => ?_) (fun hb => ?_) <;> try simp only [go_sem, hb]) | (with_reducible refine draw_at 0 38 (by with_unfolding_all rfl) [(0, true, true), (1, true, false), (3, true, false), (2, false, false), (4, false, false), (5, false, true), (6, false, true)] (by kernel_rfl) ?_ <;> try simp only [go_sem]) | (fail))
      refine hQO [3] _ _ (GC.now ?_) <;> simp only [Try.f87, go_sem, List.nodup_cons, List.nodup_nil, List.mem_cons, List.not_mem_nil, or_false, not_false_eq_true, List.idxOf?_cons, List.idxOf?_nil, Option.map_none, fileC_tk]
      exact hk
  · rw [moveR, if_neg hm] at hk
    by_cases q1 : 0 ≤ b ∧ b ≤ 21
    · have q1' := decide_eq_true q1
      by_cases q2 : a = b
      · have q2' : (a == b) = true := by simpa using q2
        rcases atR_cases d a with ⟨ok, h1⟩ | ⟨ok, ⟨h1, h2⟩ | ⟨i, hi, h1, h3, h2⟩⟩
        · (try simp only [go_sem, h1, q1', q2']); repeat' (first | (with_reducible refine c_split (fun hb => ?_) (fun hb => ?_) <;> try simp only [go_sem, hb, h1, q1', q2']) | (with_reducible refine w_split (fun hb => ?_) (fun hb => ?_) <;> try simp only [go_sem, hb, h1, q1', q2']) | (with_reducible refine tw_split (fun hb => ?_) (fun hb => ?_) <;> try simp only [go_sem, hb, h1, q1', q2']) | (with_reducible refine draw_at 0 38 (by with_unfolding_all rfl) [(0, true, true), (1, true, false), (3, true, false), (2, false, false), (4, false, false), (5, false, true), (6, false, true)] (by kernel_rfl) ?_ <;> try simp only [go_sem, h1, q1', q2']) | (refine call_c (c_l14Name _ _ ?_) <;> try simp only [go_sem, h1, q1', q2']) | (refine call_c (o_l14Refused d 1 hn _ ?_) <;> try simp only [go_sem, h1, q1', q2']) | (fail))
          refine hQO [2] _ _ (GC.now ?_) <;> simp only [Try.f87, go_sem, List.nodup_cons, List.nodup_nil, List.mem_cons, List.not_mem_nil, or_false, not_false_eq_true, List.idxOf?_cons, List.idxOf?_nil, Option.map_none, fileC_tk]
          exact hk
        · (try simp only [go_sem, h1, q1', q2']); repeat' (first | (with_reducible refine c_split (fun hb => ?_) (fun hb => ?_) <;> try simp only [go_sem, hb, h1, q1', q2']) | (with_reducible refine w_split (fun hb => ?_) (fun hb => ?_) <;> try simp only [go_sem, hb, h1, q1', q2']) | (with_reducible refine tw_split (fun hb => ?_) (fun hb => ?_) <;> try simp only [go_sem, hb, h1, q1', q2']) | (with_reducible refine draw_at 0 38 (by with_unfolding_all rfl) [(0, true, true), (1, true, false), (3, true, false), (2, false, false), (4, false, false), (5, false, true), (6, false, true)] (by kernel_rfl) ?_ <;> try simp only [go_sem, h1, q1', q2']) | (refine call_c (c_l14Name _ _ ?_) <;> try simp only [go_sem, h1, q1', q2']) | (refine call_c (o_l14Refused d 1 hn _ ?_) <;> try simp only [go_sem, h1, q1', q2']) | (fail))
          refine hQO [2] _ _ (GC.now ?_) <;> simp only [Try.f87, go_sem, List.nodup_cons, List.nodup_nil, List.mem_cons, List.not_mem_nil, or_false, not_false_eq_true, List.idxOf?_cons, List.idxOf?_nil, Option.map_none, fileC_tk]
          exact hk
        · (try simp only [go_sem, h1, q1', q2']); repeat' (first | (with_reducible refine c_split (fun hb => ?_) (fun hb => ?_) <;> try simp only [go_sem, hb, h1, q1', q2']) | (with_reducible refine w_split (fun hb => ?_) (fun hb => ?_) <;> try simp only [go_sem, hb, h1, q1', q2']) | (with_reducible refine tw_split (fun hb => ?_) (fun hb => ?_) <;> try simp only [go_sem, hb, h1, q1', q2']) | (with_reducible refine draw_at 0 38 (by with_unfolding_all rfl) [(0, true, true), (1, true, false), (3, true, false), (2, false, false), (4, false, false), (5, false, true), (6, false, true)] (by kernel_rfl) ?_ <;> try simp only [go_sem, h1, q1', q2']) | (refine call_c (c_l14Name _ _ ?_) <;> try simp only [go_sem, h1, q1', q2']) | (refine call_c (o_l14Refused d 1 hn _ ?_) <;> try simp only [go_sem, h1, q1', q2']) | (fail))
          refine hQO [2] _ _ (GC.now ?_) <;> simp only [Try.f87, go_sem, List.nodup_cons, List.nodup_nil, List.mem_cons, List.not_mem_nil, or_false, not_false_eq_true, List.idxOf?_cons, List.idxOf?_nil, Option.map_none, fileC_tk]
          exact hk
      · have q2' : (a == b) = false := by simpa using q2
        rcases atR_cases d a with ⟨ok, h1⟩ | ⟨ok, h1⟩
        · (try simp only [go_sem, h1, q1', q2']); repeat' (first | (with_reducible refine c_split (fun hb => ?_) (fun hb => ?_) <;> try simp only [go_sem, hb, h1, q1', q2']) | (with_reducible refine w_split (fun hb => ?_) (fun hb => ?_) <;> try simp only [go_sem, hb, h1, q1', q2']) | (with_reducible refine tw_split (fun hb => ?_) (fun hb => ?_) <;> try simp only [go_sem, hb, h1, q1', q2']) | (with_reducible refine draw_at 0 38 (by with_unfolding_all rfl) [(0, true, true), (1, true, false), (3, true, false), (2, false, false), (4, false, false), (5, false, true), (6, false, true)] (by kernel_rfl) ?_ <;> try simp only [go_sem, h1, q1', q2']) | (refine call_c (c_l14Name _ _ ?_) <;> try simp only [go_sem, h1, q1', q2']) | (refine call_c (o_l14Refused d 1 hn _ ?_) <;> try simp only [go_sem, h1, q1', q2']) | (fail))
          refine hQO [2] _ _ (GC.now ?_) <;> simp only [Try.f87, go_sem, List.nodup_cons, List.nodup_nil, List.mem_cons, List.not_mem_nil, or_false, not_false_eq_true, List.idxOf?_cons, List.idxOf?_nil, Option.map_none, fileC_tk]
          exact hk
        · exact absurd ⟨ok.1, ok.2, q1, q2⟩ hm
    · have q1' := decide_eq_false q1
      rcases atR_cases d a with ⟨ok, h1⟩ | ⟨ok, ⟨h1, h2⟩ | ⟨i, hi, h1, h3, h2⟩⟩
      · (try simp only [go_sem, h1, q1']); repeat' (first | (with_reducible refine c_split (fun hb => ?_) (fun hb => ?_) <;> try simp only [go_sem, hb, h1, q1']) | (with_reducible refine w_split (fun hb => ?_) (fun hb => ?_) <;> try simp only [go_sem, hb, h1, q1']) | (with_reducible refine tw_split (fun hb => ?_) (fun hb => ?_) <;> try simp only [go_sem, hb, h1, q1']) | (with_reducible refine draw_at 0 38 (by with_unfolding_all rfl) [(0, true, true), (1, true, false), (3, true, false), (2, false, false), (4, false, false), (5, false, true), (6, false, true)] (by kernel_rfl) ?_ <;> try simp only [go_sem, h1, q1']) | (refine call_c (c_l14Name _ _ ?_) <;> try simp only [go_sem, h1, q1']) | (refine call_c (o_l14Refused d 1 hn _ ?_) <;> try simp only [go_sem, h1, q1']) | (fail))
        refine hQO [2] _ _ (GC.now ?_) <;> simp only [Try.f87, go_sem, List.nodup_cons, List.nodup_nil, List.mem_cons, List.not_mem_nil, or_false, not_false_eq_true, List.idxOf?_cons, List.idxOf?_nil, Option.map_none, fileC_tk]
        exact hk
      · (try simp only [go_sem, h1, q1']); repeat' (first | (with_reducible refine c_split (fun hb => ?_) (fun hb => ?_) <;> try simp only [go_sem, hb, h1, q1']) | (with_reducible refine w_split (fun hb => ?_) (fun hb => ?_) <;> try simp only [go_sem, hb, h1, q1']) | (with_reducible refine tw_split (fun hb => ?_) (fun hb => ?_) <;> try simp only [go_sem, hb, h1, q1']) | (with_reducible refine draw_at 0 38 (by with_unfolding_all rfl) [(0, true, true), (1, true, false), (3, true, false), (2, false, false), (4, false, false), (5, false, true), (6, false, true)] (by kernel_rfl) ?_ <;> try simp only [go_sem, h1, q1']) | (refine call_c (c_l14Name _ _ ?_) <;> try simp only [go_sem, h1, q1']) | (refine call_c (o_l14Refused d 1 hn _ ?_) <;> try simp only [go_sem, h1, q1']) | (fail))
        refine hQO [2] _ _ (GC.now ?_) <;> simp only [Try.f87, go_sem, List.nodup_cons, List.nodup_nil, List.mem_cons, List.not_mem_nil, or_false, not_false_eq_true, List.idxOf?_cons, List.idxOf?_nil, Option.map_none, fileC_tk]
        exact hk
      · (try simp only [go_sem, h1, q1']); repeat' (first | (with_reducible refine c_split (fun hb => ?_) (fun hb => ?_) <;> try simp only [go_sem, hb, h1, q1']) | (with_reducible refine w_split (fun hb => ?_) (fun hb => ?_) <;> try simp only [go_sem, hb, h1, q1']) | (with_reducible refine tw_split (fun hb => ?_) (fun hb => ?_) <;> try simp only [go_sem, hb, h1, q1']) | (with_reducible refine draw_at 0 38 (by with_unfolding_all rfl) [(0, true, true), (1, true, false), (3, true, false), (2, false, false), (4, false, false), (5, false, true), (6, false, true)] (by kernel_rfl) ?_ <;> try simp only [go_sem, h1, q1']) | (refine call_c (c_l14Name _ _ ?_) <;> try simp only [go_sem, h1, q1']) | (refine call_c (o_l14Refused d 1 hn _ ?_) <;> try simp only [go_sem, h1, q1']) | (fail))
        refine hQO [2] _ _ (GC.now ?_) <;> simp only [Try.f87, go_sem, List.nodup_cons, List.nodup_nil, List.mem_cons, List.not_mem_nil, or_false, not_false_eq_true, List.idxOf?_cons, List.idxOf?_nil, Option.map_none, fileC_tk]
        exact hk
end Go.Proofs.Ytaahlnjldenhpaa
