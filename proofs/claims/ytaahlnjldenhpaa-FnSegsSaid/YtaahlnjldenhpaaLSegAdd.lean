/- SegAdd: a sealed record behind a segment, told to be kept. Conditions: none. -/
import Derived.Test.YtaahlnjldenhpaaLG
import Derived.Test.YtaahlnjldenhpaaLT
import Derived.Test.YtaahlnjldenhpaaLSegLate
namespace Go.Proofs.Ytaahlnjldenhpaa
open Go.BL Go.RowKit
set_option linter.unusedVariables false
set_option linter.unusedSimpArgs false
set_option maxRecDepth 100000
attribute [local go_sem] fileC diskC fileC_len diskR
def addR (d : Disk) (seg : Int) (s : ByteArray) : Disk × Int := if (lateR d seg s).2 = 0 then syncR (lateR d seg s).1 seg else lateR d seg s
theorem putF_mem {fs : List File} {f g : File} (h : g ∈ putF fs f) : g = f ∨ g ∈ fs := by
  simp only [putF, List.mem_append, List.mem_cons, List.mem_filter] at h
  rcases h with h | h | h
  · exact .inr h.1
  · exact .inl h
  · exact .inr h.1
theorem addF_small {fs : List File} {name : Int} {s : ByteArray} {B : Nat} (hz : ∀ f ∈ fs, f.safe.size ≤ B ∧ f.late.size ≤ B) : (addF fs name s).safe.size ≤ B + s.size ∧ (addF fs name s).late.size ≤ B + s.size := by
  unfold addF
  split
  · rename_i f hf
    have := hz f (List.mem_of_find?_eq_some hf)
    simp only [ByteArray.size_append]; omega
  · simp only [ByteArray.size_append]
    have : (⟨#[]⟩ : ByteArray).size = 0 := rfl
    omega
theorem appR_small {d : Disk} {name : Int} {s : ByteArray} {B : Nat} (hz : ∀ f ∈ d.files, f.safe.size ≤ B ∧ f.late.size ≤ B) : ∀ f ∈ (appR d name s).1.files, f.safe.size ≤ B + s.size ∧ f.late.size ≤ B + s.size := by
  unfold appR
  split
  · split
    · intro f hf; have := hz f hf; omega
    · intro f hf
      rcases putF_mem hf with rfl | hf
      · exact addF_small hz
      · have := hz f hf; omega
  · intro f hf; simp at hf
theorem lateR_small {d : Disk} {seg : Int} {s : ByteArray} {B : Nat} (hs : s.size ≤ 1000000000000) (hz : ∀ f ∈ d.files, f.safe.size ≤ B ∧ f.late.size ≤ B) : ∀ f ∈ (lateR d seg s).1.files, f.safe.size ≤ B + 9014 ∧ f.late.size ≤ B + 9014 := by
  unfold lateR
  split
  · intro f hf
    have h1 := appR_small hz f hf
    have h2 : (bA (sealS s.data.toList).1).size ≤ 9014 := seal_len s.data.toList hs
    omega
  · intro f hf; simp at hf
theorem c_spec_SegAdd (d : Disk) (seg : Int) (s : ByteArray) (hn : d.files.length ≤ 10000000) (hz : ∀ f ∈ d.files, f.safe.size ≤ 1000000000000 ∧ f.late.size ≤ 1000000000000) (hs : s.size ≤ 1000000000000) (K : AV → AH → Prop) (hk : K (diskR (addR d seg s)) []) : ACalls Try.prog 20 [.agg (diskC d), (.one (.c (.int .i64 (seg)))), (.one (.c (.string (s))))] [] K := by
  have hz0 : SmallF d.files := fun f hf => by have := hz f hf; omega
  have hz1 : SmallF (lateR d seg s).1.files := fun f hf => by have := lateR_small hs hz f hf; omega
  have hl1 := lateR_len d seg s
  have hl2 : (lateR d seg s).1.files.length ≤ 1000000000 := by omega
  refine acall_c Try.f20.results.toList mixed Try.func20 rfl rfl (by kernel_rfl) ?_
  intro Q hQ hQO
  simp only [go_sem]
  (try simp only [go_sem]); repeat' (first | (with_reducible refine c_split (fun hb => ?_) (fun hb => ?_) <;> try simp only [go_sem, hb]) | (with_reducible refine w_split (fun hb => ?_) (fun hb => ?_) <;> try simp only [go_sem, hb]) | (refine call_c (c_spec_SegLate d seg s (by omega) hz0 hs _ ?_) <;> try simp only [go_sem]) | (fail))
  · rw [addR, if_neg (by simpa using hb)] at hk
    (try simp only [go_sem]); repeat' (first | (with_reducible refine c_split (fun hb => ?_) (fun hb => ?_) <;> try simp only [go_sem, hb]) | (with_reducible refine w_split (fun hb => ?_) (fun hb => ?_) <;> try simp only [go_sem, hb]) | (with_reducible refine hQ _ _ ?_ <;> simp only [Try.f20, go_sem]))
    exact hk
  · rw [addR, if_pos (by simpa using hb)] at hk
    (try simp only [go_sem]); repeat' (first | (with_reducible refine c_split (fun hb => ?_) (fun hb => ?_) <;> try simp only [go_sem, hb]) | (with_reducible refine w_split (fun hb => ?_) (fun hb => ?_) <;> try simp only [go_sem, hb]) | (refine call_c (c_spec_DiskSync (lateR d seg s).1 seg hl2 hz1 _ ?_) <;> try simp only [go_sem]) | (with_reducible refine hQ _ _ ?_ <;> simp only [Try.f20, go_sem]))
    exact hk
theorem c_impl_SegAdd (d : Disk) (seg : Int) (s : ByteArray) (hn : d.files.length ≤ 10000000) (hz : ∀ f ∈ d.files, f.safe.size ≤ 1000000000000 ∧ f.late.size ≤ 1000000000000) (hs : s.size ≤ 1000000000000) (K : AV → AH → Prop)
    (hk : K (.tup [.agg [.c (.int .i64 ((addR d seg s).1.room)), .sl 0 0 0 (addR d seg s).1.files.length], (.one (.c (.int .i64 ((addR d seg s).2))))]) [.own 0 55 3 none ((addR d seg s).1.files.map fileC)]) : ACalls Try.prog 19 [.agg (diskC d), (.one (.c (.int .i64 (seg)))), (.one (.c (.string (s))))] [] K := by
  have hz0 : SmallF d.files := fun f hf => by have := hz f hf; omega
  have hz1 : SmallF (lateR d seg s).1.files := fun f hf => by have := lateR_small hs hz f hf; omega
  have hl1 := lateR_len d seg s
  have hl2 : (lateR d seg s).1.files.length ≤ 1000000000 := by omega
  refine acall_c Try.f19.results.toList mixed Try.func19 rfl rfl (by kernel_rfl) ?_
  intro Q hQ hQO
  simp only [go_sem]
  (try simp only [go_sem]); repeat' (first | (with_reducible refine c_split (fun hb => ?_) (fun hb => ?_) <;> try simp only [go_sem, hb]) | (with_reducible refine w_split (fun hb => ?_) (fun hb => ?_) <;> try simp only [go_sem, hb]) | (refine call_c (c_impl_SegLate d seg s (by omega) hz0 hs _ ?_) <;> try simp only [go_sem]) | (fail))
  · rw [addR, if_neg (by simpa using hb)] at hk
    refine hQO [2] _ _ (GC.now ?_) <;> simp only [Try.f19, go_sem, List.nodup_cons, List.nodup_nil, List.mem_cons, List.not_mem_nil, or_false, not_false_eq_true, List.idxOf?_cons, List.idxOf?_nil, Option.map_none, fileC_tk]
    exact hk
  · rw [addR, if_pos (by simpa using hb)] at hk
    (try simp only [go_sem]); repeat' (first | (with_reducible refine c_split (fun hb => ?_) (fun hb => ?_) <;> try simp only [go_sem, hb]) | (with_reducible refine w_split (fun hb => ?_) (fun hb => ?_) <;> try simp only [go_sem, hb]) | (refine call_c (c_impl_DiskSync (lateR d seg s).1 seg hl2 hz1 _ ?_) <;> try simp only [go_sem]) | (fail))
    refine hQO [4] _ _ (GC.now ?_) <;> simp only [Try.f19, go_sem, List.nodup_cons, List.nodup_nil, List.mem_cons, List.not_mem_nil, or_false, not_false_eq_true, List.idxOf?_cons, List.idxOf?_nil, Option.map_none, fileC_tk]
    exact hk
theorem syncR_len (d : Disk) (name : Int) : (syncR d name).1.files.length ≤ 2 * d.files.length + 1 := by
  unfold syncR
  split
  · split
    · exact putF_len _ _
    · simp only; omega
  · simp
theorem addR_len (d : Disk) (seg : Int) (s : ByteArray) : (addR d seg s).1.files.length ≤ 4 * d.files.length + 3 := by
  have h1 := lateR_len d seg s
  unfold addR
  split
  · have h2 := syncR_len (lateR d seg s).1 seg
    omega
  · omega
end Go.Proofs.Ytaahlnjldenhpaa
