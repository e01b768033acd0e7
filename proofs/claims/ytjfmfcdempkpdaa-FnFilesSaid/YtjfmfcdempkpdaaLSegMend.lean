/- SegMend: a segment without what is torn of it. Conditions: none. -/
import Derived.Test.YtjfmfcdempkpdaaLG
import Derived.Test.YtjfmfcdempkpdaaLT
import Derived.Test.YtjfmfcdempkpdaaLDisk
import Derived.Test.YtjfmfcdempkpdaaLSegRead
import Derived.Test.YtjfmfcdempkpdaaLLawRead
namespace Go.Proofs.Ytjfmfcdempkpdaa
open Go.BL Go.RowKit
set_option linter.unusedVariables false
set_option linter.unusedSimpArgs false
set_option maxRecDepth 100000
attribute [local go_sem] fileC diskC fileC_len diskR
def mendR (d : Disk) (seg : Int) : Disk × Int := if 0 ≤ seg ∧ seg ≤ 19 then cutR d seg (segRd d seg).2 else (⟨0, []⟩, 1)
theorem c_spec_SegMend (d : Disk) (seg : Int) (hn : d.files.length ≤ 1000000000) (hz : SmallF d.files) (hb0 : ∀ s, readA d seg = some s → s.size ≤ 1000000000000) (K : AV → AH → Prop) (hk : K (diskR (mendR d seg)) []) : ACalls Try.prog 34 [.agg (diskC d), (.one (.c (.int .i64 (seg))))] [] K := by
  refine acall_c Try.f34.results.toList mixed Try.func34 rfl rfl (by kernel_rfl) ?_
  intro Q hQ hQO
  simp only [go_sem]
  (try simp only [go_sem]); repeat' (first | (with_reducible refine c_split (fun hb => ?_) (fun hb => ?_) <;> try simp only [go_sem, hb]) | (with_reducible refine w_split (fun hb => ?_) (fun hb => ?_) <;> try simp only [go_sem, hb]) | (refine call_c (c_l15Seg _ _ ?_) <;> try simp only [go_sem]) | (fail))
  · rw [mendR, if_neg (of_decide_eq_false (by simpa only [Bool.not_eq_true'] using hb))] at hk
    (try simp only [go_sem]); repeat' (first | (with_reducible refine c_split (fun hb => ?_) (fun hb => ?_) <;> try simp only [go_sem, hb]) | (with_reducible refine w_split (fun hb => ?_) (fun hb => ?_) <;> try simp only [go_sem, hb]) | (with_reducible refine hQ _ _ ?_ <;> simp only [Try.f34, go_sem]))
    exact hk
  · rw [mendR, if_pos (by simpa using hb)] at hk
    (try simp only [go_sem]); repeat' (first | (with_reducible refine c_split (fun hb => ?_) (fun hb => ?_) <;> try simp only [go_sem, hb]) | (with_reducible refine w_split (fun hb => ?_) (fun hb => ?_) <;> try simp only [go_sem, hb]) | (refine call_c (c_spec_SegRead d seg hn hz hb0 _ ?_) <;> try simp only [go_sem]) | (refine call_c (c_spec_DiskCut d seg _ hn hz _ ?_) <;> try simp only [go_sem]) | (with_reducible refine hQ _ _ ?_ <;> simp only [Try.f34, go_sem]))
    exact hk
theorem c_impl_SegMend (d : Disk) (seg : Int) (hn : d.files.length ≤ 1000000000) (hz : SmallF d.files) (hb0 : ∀ s, readA d seg = some s → s.size ≤ 1000000000000) (K : AV → AH → Prop)
    (hk : K (.tup [.agg [.c (.int .i64 ((mendR d seg).1.room)), .sl 0 0 0 (mendR d seg).1.files.length], (.one (.c (.int .i64 ((mendR d seg).2))))]) [.own 0 76 3 none ((mendR d seg).1.files.map fileC)]) : ACalls Try.prog 35 [.agg (diskC d), (.one (.c (.int .i64 (seg))))] [] K := by
  refine acall_c Try.f35.results.toList mixed Try.func35 rfl rfl (by kernel_rfl) ?_
  intro Q hQ hQO
  simp only [go_sem]
  (try simp only [go_sem]); repeat' (first | (with_reducible refine c_split (fun hb => ?_) (fun hb => ?_) <;> try simp only [go_sem, hb]) | (with_reducible refine w_split (fun hb => ?_) (fun hb => ?_) <;> try simp only [go_sem, hb]) | (refine call_c (c_isSeg _ _ ?_) <;> try simp only [go_sem]) | (fail))
  · rw [mendR, if_neg (of_decide_eq_false (by simpa only [Bool.not_eq_true'] using hb))] at hk
    refine hQO [2] _ _ (GC.step (Ghost.nlc (l := 1) rfl 0 1 rfl rfl 76 3) (GC.now ?_)) <;> simp only [Try.f35, go_sem, List.nodup_cons, List.nodup_nil, List.mem_cons, List.not_mem_nil, or_false, not_false_eq_true, List.idxOf?_cons, List.idxOf?_nil, Option.map_none]
    exact hk
  · rw [mendR, if_pos (by simpa using hb)] at hk
    (try simp only [go_sem]); repeat' (first | (with_reducible refine c_split (fun hb => ?_) (fun hb => ?_) <;> try simp only [go_sem, hb]) | (with_reducible refine w_split (fun hb => ?_) (fun hb => ?_) <;> try simp only [go_sem, hb]) | (refine call_c (c_impl_SegRead d seg hn hz hb0 _ ?_) <;> try simp only [go_sem]) | (refine call_c (c_impl_DiskCut d seg _ hn hz _ ?_) <;> try simp only [go_sem]) | (fail))
    refine hQO [3] _ _ (GC.now ?_) <;> simp only [Try.f35, go_sem, List.nodup_cons, List.nodup_nil, List.mem_cons, List.not_mem_nil, or_false, not_false_eq_true, List.idxOf?_cons, List.idxOf?_nil, Option.map_none, fileC_tk]
    exact hk
theorem putF_len (fs : List File) (x : File) : (putF fs x).length ≤ 2 * fs.length + 1 := by
  have h1 := List.length_filter_le (fun g : File => decide (g.name < x.name)) fs
  have h2 := List.length_filter_le (fun g : File => decide (x.name < g.name)) fs
  simp only [putF, List.length_append, List.length_cons]
  omega
theorem cutR_len (d : Disk) (name n : Int) : (cutR d name n).1.files.length ≤ 2 * d.files.length + 1 := by
  unfold cutR
  split
  · split
    · split
      · exact putF_len _ _
      · simp only; omega
    · simp only; omega
  · simp
theorem mendR_len (d : Disk) (seg : Int) : (mendR d seg).1.files.length ≤ 2 * d.files.length + 1 := by
  unfold mendR
  split
  · exact cutR_len _ _ _
  · simp
theorem c_FnExactSegMend (d : Disk) (seg : Int) (hz : SizedF d.files) (hn : d.files.length ≤ 1000000000000000) (K : AV → AH → Prop) (hk : K (.one (.c (.bool (true)))) []) : ACalls Try.prog 7 [.agg (diskC d), (.one (.c (.int .i64 (seg))))] [] K := by
  refine acall_c Try.f7.results.toList mixed Try.func7 rfl rfl (by kernel_rfl) ?_
  intro Q hQ hQO
  simp only [go_sem]
  (try simp only [go_sem]); repeat' (first | (with_reducible refine c_split (fun hb => ?_) (fun hb => ?_) <;> try simp only [go_sem, hb]) | (with_reducible refine w_split (fun hb => ?_) (fun hb => ?_) <;> try simp only [go_sem, hb]) | (with_reducible refine tw_split (fun hb => ?_) (fun hb => ?_) <;> try simp only [go_sem, hb]) | (with_reducible refine draw_at 0 45 (by with_unfolding_all rfl) [(0, true, true), (1, false, false), (2, false, false), (3, false, true), (4, false, true)] (by kernel_rfl) ?_ <;> try simp only [go_sem]) | (refine call_c (c_szDisk d _ hz hn (by decide) (by decide) _ (fun r hr => ?_)) <;> try simp only [go_sem]) | (with_reducible refine hQ _ _ ?_ <;> simp only [Try.f7, go_sem]))
  · exact hk
  have hr2 := hr (by have := of_decide_eq_false hb; omega)
  have h3 := roomTo_nonneg d.files d.files.length
  have hn0 : d.files.length ≤ 1048576 := by have := of_decide_eq_false hb; omega
  have hn1 : d.files.length ≤ 1000000000 := by omega
  have hsz : ∀ s, readA d seg = some s → s.size ≤ 1000000000000 := fun s h => by
    have := read_room h
    have := of_decide_eq_false hb
    omega
  have hml := mendR_len d seg
  have hl9 : (mendR d seg).1.files.length ≤ 1000000000 := by omega
  have e1 : decide ((1 : Int) + 3 * d.files.length < 0) = false := decide_eq_false (by omega)
  have e2 : decide ((1 : Int) + 3 * (mendR d seg).1.files.length < 0) = false := decide_eq_false (by omega)
  (try simp only [go_sem, BEq.rfl, diskR, e1, e2, marksF_len, marksF_tk]); repeat' (first | (with_reducible refine c_split (fun hb => ?_) (fun hb => ?_) <;> try simp only [go_sem, hb, BEq.rfl, diskR, e1, e2, marksF_len, marksF_tk]) | (with_reducible refine w_split (fun hb => ?_) (fun hb => ?_) <;> try simp only [go_sem, hb, BEq.rfl, diskR, e1, e2, marksF_len, marksF_tk]) | (with_reducible refine tw_split (fun hb => ?_) (fun hb => ?_) <;> try simp only [go_sem, hb, BEq.rfl, diskR, e1, e2, marksF_len, marksF_tk]) | (with_reducible refine draw_at 0 45 (by with_unfolding_all rfl) [(0, true, true), (1, false, false), (2, false, false), (3, false, true), (4, false, true)] (by kernel_rfl) ?_ <;> try simp only [go_sem, BEq.rfl, diskR, e1, e2, marksF_len, marksF_tk]) | (refine call_c (c_toDisk d hn1 _ ?_) <;> try simp only [go_sem, BEq.rfl, diskR, e1, e2, marksF_len, marksF_tk]) | (refine call_c (c_spec_SegMend d seg hn1 hz hsz _ ?_) <;> try simp only [go_sem, BEq.rfl, diskR, e1, e2, marksF_len, marksF_tk]) | (refine call_c (c_impl_SegMend d seg hn1 hz hsz _ ?_) <;> try simp only [go_sem, BEq.rfl, diskR, e1, e2, marksF_len, marksF_tk]) | (refine call_c (c_eqDisk (mendR d seg).1 hl9 _ ?_) <;> try simp only [go_sem, BEq.rfl, diskR, e1, e2, marksF_len, marksF_tk]) | (refine call_c (c_eqDisk d hn1 _ ?_) <;> try simp only [go_sem, BEq.rfl, diskR, e1, e2, marksF_len, marksF_tk]) | (refine call_h (c_markDisk _ d.files 1 3 0 _ _ rfl hn1 (by decide) (by decide) _ ?_) <;> try simp only [go_sem, BEq.rfl, diskR, e1, e2, marksF_len, marksF_tk]) | (refine call_h (c_markDisk _ (mendR d seg).1.files 1 5 0 _ _ rfl hl9 (by decide) (by decide) _ ?_) <;> try simp only [go_sem, BEq.rfl, diskR, e1, e2, marksF_len, marksF_tk]) | (refine call_c (c_heldDisk _ (mendR d seg).1.files.length 1 hl9 (by decide) (by decide) _ ?_) <;> try simp only [go_sem, BEq.rfl, diskR, e1, e2, marksF_len, marksF_tk]) | (with_reducible refine hQ _ _ ?_ <;> simp only [Try.f7, go_sem, BEq.rfl, diskR, e1, e2, marksF_len, marksF_tk]))
  exact hk
end Go.Proofs.Ytjfmfcdempkpdaa
