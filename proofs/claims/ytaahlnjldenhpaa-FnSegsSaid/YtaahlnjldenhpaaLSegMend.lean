/- SegMend: a segment without what is torn of it. Conditions: none. -/
import Derived.Test.YtaahlnjldenhpaaLG
import Derived.Test.YtaahlnjldenhpaaLT
import Derived.Test.YtaahlnjldenhpaaLDisk
import Derived.Test.YtaahlnjldenhpaaLSegRead
import Derived.Test.YtaahlnjldenhpaaLLawRead
namespace Go.Proofs.Ytaahlnjldenhpaa
open Go.BL Go.RowKit
set_option linter.unusedVariables false
set_option linter.unusedSimpArgs false
set_option maxRecDepth 100000
attribute [local go_sem] fileC diskC fileC_len diskR
def mendR (d : Disk) (seg : Int) : Disk × Int := if 0 ≤ seg ∧ seg ≤ 19 then cutR d seg (segRd d seg).2 else (⟨0, []⟩, 1)
theorem c_spec_SegMend (d : Disk) (seg : Int) (hn : d.files.length ≤ 1000000000) (hz : SmallF d.files) (hb0 : ∀ s, readA d seg = some s → s.size ≤ 1000000000000) (K : AV → AH → Prop) (hk : K (diskR (mendR d seg)) []) : ACalls Try.prog 17 [.agg (diskC d), (.one (.c (.int .i64 (seg))))] [] K := by
  refine acall_c Try.f17.results.toList mixed Try.func17 rfl rfl (by kernel_rfl) ?_
  intro Q hQ hQO
  simp only [go_sem]
  (try simp only [go_sem]); repeat' (first | (with_reducible refine c_split (fun hb => ?_) (fun hb => ?_) <;> try simp only [go_sem, hb]) | (with_reducible refine w_split (fun hb => ?_) (fun hb => ?_) <;> try simp only [go_sem, hb]) | (refine call_c (c_l15Seg _ _ ?_) <;> try simp only [go_sem]) | (fail))
  · rw [mendR, if_neg (of_decide_eq_false (by simpa only [Bool.not_eq_true'] using hb))] at hk
    (try simp only [go_sem]); repeat' (first | (with_reducible refine c_split (fun hb => ?_) (fun hb => ?_) <;> try simp only [go_sem, hb]) | (with_reducible refine w_split (fun hb => ?_) (fun hb => ?_) <;> try simp only [go_sem, hb]) | (with_reducible refine hQ _ _ ?_ <;> simp only [Try.f17, go_sem]))
    exact hk
  · rw [mendR, if_pos (by simpa using hb)] at hk
    (try simp only [go_sem]); repeat' (first | (with_reducible refine c_split (fun hb => ?_) (fun hb => ?_) <;> try simp only [go_sem, hb]) | (with_reducible refine w_split (fun hb => ?_) (fun hb => ?_) <;> try simp only [go_sem, hb]) | (refine call_c (c_spec_SegRead d seg hn hz hb0 _ ?_) <;> try simp only [go_sem]) | (refine call_c (c_spec_DiskCut d seg _ hn hz _ ?_) <;> try simp only [go_sem]) | (with_reducible refine hQ _ _ ?_ <;> simp only [Try.f17, go_sem]))
    exact hk
theorem c_impl_SegMend (d : Disk) (seg : Int) (hn : d.files.length ≤ 1000000000) (hz : SmallF d.files) (hb0 : ∀ s, readA d seg = some s → s.size ≤ 1000000000000) (K : AV → AH → Prop)
    (hk : K (.tup [.agg [.c (.int .i64 ((mendR d seg).1.room)), .sl 0 0 0 (mendR d seg).1.files.length], (.one (.c (.int .i64 ((mendR d seg).2))))]) [.own 0 55 3 none ((mendR d seg).1.files.map fileC)]) : ACalls Try.prog 16 [.agg (diskC d), (.one (.c (.int .i64 (seg))))] [] K := by
  refine acall_c Try.f16.results.toList mixed Try.func16 rfl rfl (by kernel_rfl) ?_
  intro Q hQ hQO
  simp only [go_sem]
  (try simp only [go_sem]); repeat' (first | (with_reducible refine c_split (fun hb => ?_) (fun hb => ?_) <;> try simp only [go_sem, hb]) | (with_reducible refine w_split (fun hb => ?_) (fun hb => ?_) <;> try simp only [go_sem, hb]) | (refine call_c (c_isSeg _ _ ?_) <;> try simp only [go_sem]) | (fail))
  · rw [mendR, if_neg (of_decide_eq_false (by simpa only [Bool.not_eq_true'] using hb))] at hk
    refine hQO [2] _ _ (GC.step (Ghost.nlc (l := 1) rfl 0 1 rfl rfl 55 3) (GC.now ?_)) <;> simp only [Try.f16, go_sem, List.nodup_cons, List.nodup_nil, List.mem_cons, List.not_mem_nil, or_false, not_false_eq_true, List.idxOf?_cons, List.idxOf?_nil, Option.map_none]
    exact hk
  · rw [mendR, if_pos (by simpa using hb)] at hk
    (try simp only [go_sem]); repeat' (first | (with_reducible refine c_split (fun hb => ?_) (fun hb => ?_) <;> try simp only [go_sem, hb]) | (with_reducible refine w_split (fun hb => ?_) (fun hb => ?_) <;> try simp only [go_sem, hb]) | (refine call_c (c_impl_SegRead d seg hn hz hb0 _ ?_) <;> try simp only [go_sem]) | (refine call_c (c_impl_DiskCut d seg _ hn hz _ ?_) <;> try simp only [go_sem]) | (fail))
    refine hQO [3] _ _ (GC.now ?_) <;> simp only [Try.f16, go_sem, List.nodup_cons, List.nodup_nil, List.mem_cons, List.not_mem_nil, or_false, not_false_eq_true, List.idxOf?_cons, List.idxOf?_nil, Option.map_none, fileC_tk]
    exact hk
theorem putF_len (fs : List File) (x : File) : (putF fs x).length ≤ 2 * fs.length + 1 := by
  have h1 := List.length_filter_le (fun g : File => decide (g.name < x.name)) fs
  have h2 := List.length_filter_le (fun g : File => decide (x.name < g.name)) fs
  simp only [putF, List.length_append, List.length_cons]
  omega
theorem cutR_len (d : Disk) (name n : Int) : (cutR d name n).1.files.length ≤ 2 * d.files.length + 1 := by
  unfold cutR
  split
  · split
    · split
      · exact putF_len _ _
      · simp only; omega
    · simp only; omega
  · simp
theorem mendR_len (d : Disk) (seg : Int) : (mendR d seg).1.files.length ≤ 2 * d.files.length + 1 := by
  unfold mendR
  split
  · exact cutR_len _ _ _
  · simp
end Go.Proofs.Ytaahlnjldenhpaa
