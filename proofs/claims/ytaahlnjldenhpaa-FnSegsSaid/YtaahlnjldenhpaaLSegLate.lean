/- SegLate: a sealed record behind a segment. Conditions: none. -/
import Derived.Test.YtaahlnjldenhpaaLG
import Derived.Test.YtaahlnjldenhpaaLT
import Derived.Test.YtaahlnjldenhpaaLAppend
import Derived.Test.YtaahlnjldenhpaaLSeal
import Derived.Test.YtaahlnjldenhpaaLSegMend
namespace Go.Proofs.Ytaahlnjldenhpaa
open Go.BL Go.RowKit
set_option linter.unusedVariables false
set_option linter.unusedSimpArgs false
set_option maxRecDepth 100000
attribute [local go_sem] fileC diskC fileC_len diskR byteC sealR
def lateR (d : Disk) (seg : Int) (s : ByteArray) : Disk × Int := if (sealS s.data.toList).2 = true ∧ 0 ≤ seg ∧ seg ≤ 19 then appR d seg (bA (sealS s.data.toList).1) else (⟨0, []⟩, 1)
theorem seal_len (bs : List UInt8) (h : bs.length ≤ 1000000000000) : (sealS bs).1.length ≤ 9014 := by
  rw [sealS]
  split
  · simp
  · have := putNum_le bs.length (by omega)
    rw [List.length_append, List.length_append, show (ckBytes (ckN bs)).length = 4 from rfl]; omega
theorem late_no1 {b : List UInt8 × Bool} {seg : Int} (h : (!b.2) = true) : ¬ (b.2 = true ∧ 0 ≤ seg ∧ seg ≤ 19) := fun q => by simp [q.1] at h
theorem late_no2 {b : Bool} {seg : Int} (h : (!decide (0 ≤ seg ∧ seg ≤ 19)) = true) : ¬ (b = true ∧ 0 ≤ seg ∧ seg ≤ 19) := fun q => by simp [q.2] at h
theorem late_yes {b : Bool} {seg : Int} (h1 : (!b) = false) (h2 : (!decide (0 ≤ seg ∧ seg ≤ 19)) = false) : b = true ∧ 0 ≤ seg ∧ seg ≤ 19 := by simp at h1 h2; exact ⟨h1, h2⟩
theorem c_spec_SegLate (d : Disk) (seg : Int) (s : ByteArray) (hn : d.files.length ≤ 1000000000) (hz : SmallF d.files) (hs : s.size ≤ 1000000000000) (K : AV → AH → Prop) (hk : K (diskR (lateR d seg s)) []) : ACalls Try.prog 49 [.agg (diskC d), (.one (.c (.int .i64 (seg)))), (.one (.c (.string (s))))] [] K := by
  have hs2 : s.data.toList.length ≤ 1000000000000 := hs
  have hsm : s.data.toList.length ≤ maxLen := Nat.le_trans hs2 (by decide)
  have hsl : s.size = s.data.toList.length := rfl
  have h14 := seal_len s.data.toList hs2
  have hb1 : (bA (sealS s.data.toList).1).size ≤ 1000000000000 := Nat.le_trans (show (bA (sealS s.data.toList).1).size ≤ 9014 from h14) (by decide)
  have hso : strOf (List.map (fun b => (b.toNat : Int)) (sealS s.data.toList).1) = bA (sealS s.data.toList).1 := so_map _
  refine acall_c Try.f49.results.toList mixed Try.func49 rfl rfl (by kernel_rfl) ?_
  intro Q hQ hQO
  simp only [go_sem]
  (try simp only [go_sem, hsl, hsm, bytesE_map]); repeat' (first | (with_reducible refine c_split (fun hb => ?_) (fun hb => ?_) <;> try simp only [go_sem, hb, hsl, hsm, bytesE_map]) | (with_reducible refine w_split (fun hb => ?_) (fun hb => ?_) <;> try simp only [go_sem, hb, hsl, hsm, bytesE_map]) | (refine call_c (c_spec_Seal s.data.toList hs2 _ ?_) <;> try simp only [go_sem, hsl, hsm, bytesE_map]) | (refine call_c (c_l15Seg _ _ ?_) <;> try simp only [go_sem, hsl, hsm, bytesE_map]) | (fail))
  · rw [lateR, if_neg (late_no1 hb)] at hk
    (try simp only [go_sem]); repeat' (first | (with_reducible refine c_split (fun hb => ?_) (fun hb => ?_) <;> try simp only [go_sem, hb]) | (with_reducible refine w_split (fun hb => ?_) (fun hb => ?_) <;> try simp only [go_sem, hb]) | (with_reducible refine hQ _ _ ?_ <;> simp only [Try.f49, go_sem]))
    exact hk
  · rw [lateR, if_neg (late_no2 hb)] at hk
    (try simp only [go_sem]); repeat' (first | (with_reducible refine c_split (fun hb => ?_) (fun hb => ?_) <;> try simp only [go_sem, hb]) | (with_reducible refine w_split (fun hb => ?_) (fun hb => ?_) <;> try simp only [go_sem, hb]) | (with_reducible refine hQ _ _ ?_ <;> simp only [Try.f49, go_sem]))
    exact hk
  · rw [lateR, if_pos (late_yes ‹_› hb)] at hk
    (try simp only [go_sem, hso]); repeat' (first | (with_reducible refine c_split (fun hb => ?_) (fun hb => ?_) <;> try simp only [go_sem, hb, hso]) | (with_reducible refine w_split (fun hb => ?_) (fun hb => ?_) <;> try simp only [go_sem, hb, hso]) | (refine call_c (c_spec_DiskAppend d seg (bA (sealS s.data.toList).1) hn hz hb1 _ ?_) <;> try simp only [go_sem, hso]) | (with_reducible refine hQ _ _ ?_ <;> simp only [Try.f49, go_sem, hso]))
    exact hk
theorem c_impl_SegLate (d : Disk) (seg : Int) (s : ByteArray) (hn : d.files.length ≤ 1000000000) (hz : SmallF d.files) (hs : s.size ≤ 1000000000000) (K : AV → AH → Prop)
    (hk : K (.tup [.agg [.c (.int .i64 ((lateR d seg s).1.room)), .sl 0 0 0 (lateR d seg s).1.files.length], (.one (.c (.int .i64 ((lateR d seg s).2))))]) [.own 0 55 3 none ((lateR d seg s).1.files.map fileC)]) : ACalls Try.prog 21 [.agg (diskC d), (.one (.c (.int .i64 (seg)))), (.one (.c (.string (s))))] [] K := by
  have hs2 : s.data.toList.length ≤ 1000000000000 := hs
  have hsm : s.data.toList.length ≤ maxLen := Nat.le_trans hs2 (by decide)
  have hsl : s.size = s.data.toList.length := rfl
  have h14 := seal_len s.data.toList hs2
  have hb1 : (bA (sealS s.data.toList).1).size ≤ 1000000000000 := Nat.le_trans (show (bA (sealS s.data.toList).1).size ≤ 9014 from h14) (by decide)
  have hso : strOf (List.map (fun b => (b.toNat : Int)) (sealS s.data.toList).1) = bA (sealS s.data.toList).1 := so_map _
  refine acall_c Try.f21.results.toList mixed Try.func21 rfl rfl (by kernel_rfl) ?_
  intro Q hQ hQO
  simp only [go_sem]
  (try simp only [go_sem, hsl, hsm, bytesE_map]); repeat' (first | (with_reducible refine c_split (fun hb => ?_) (fun hb => ?_) <;> try simp only [go_sem, hb, hsl, hsm, bytesE_map]) | (with_reducible refine w_split (fun hb => ?_) (fun hb => ?_) <;> try simp only [go_sem, hb, hsl, hsm, bytesE_map]) | (refine call_c (c_impl_Seal s.data.toList hs2 _ ?_) <;> try simp only [go_sem, hsl, hsm, bytesE_map]) | (refine call_c (c_isSeg _ _ ?_) <;> try simp only [go_sem, hsl, hsm, bytesE_map]) | (fail))
  · rw [lateR, if_neg (late_no1 hb)] at hk
    refine hQO [3] _ _ (GC.step (Ghost.nlc (l := 1) rfl 0 1 rfl rfl 55 3) (GC.now ?_)) <;> simp only [Try.f21, go_sem, List.nodup_cons, List.nodup_nil, List.mem_cons, List.not_mem_nil, or_false, not_false_eq_true, List.idxOf?_cons, List.idxOf?_nil, Option.map_none]
    exact hk
  · rw [lateR, if_neg (late_no2 hb)] at hk
    refine hQO [3] _ _ (GC.step (Ghost.nlc (l := 1) rfl 0 1 rfl rfl 55 3) (GC.now ?_)) <;> simp only [Try.f21, go_sem, List.nodup_cons, List.nodup_nil, List.mem_cons, List.not_mem_nil, or_false, not_false_eq_true, List.idxOf?_cons, List.idxOf?_nil, Option.map_none]
    exact hk
  · rw [lateR, if_pos (late_yes ‹_› hb)] at hk
    (try simp only [go_sem, hso]); repeat' (first | (with_reducible refine c_split (fun hb => ?_) (fun hb => ?_) <;> try simp only [go_sem, hb, hso]) | (with_reducible refine w_split (fun hb => ?_) (fun hb => ?_) <;> try simp only [go_sem, hb, hso]) | (refine call_c (c_impl_DiskAppend d seg (bA (sealS s.data.toList).1) hn hz hb1 _ ?_) <;> try simp only [go_sem, hso]) | (fail))
    refine hQO [3] _ _ (GC.now ?_) <;> simp only [Try.f21, go_sem, List.nodup_cons, List.nodup_nil, List.mem_cons, List.not_mem_nil, or_false, not_false_eq_true, List.idxOf?_cons, List.idxOf?_nil, Option.map_none, fileC_tk]
    exact hk
theorem appR_len (d : Disk) (name : Int) (s : ByteArray) : (appR d name s).1.files.length ≤ 2 * d.files.length + 1 := by
  unfold appR
  split
  · split
    · simp only; omega
    · exact putF_len _ _
  · simp
theorem lateR_len (d : Disk) (seg : Int) (s : ByteArray) : (lateR d seg s).1.files.length ≤ 2 * d.files.length + 1 := by
  unfold lateR
  split
  · exact appR_len _ _ _
  · simp
end Go.Proofs.Ytaahlnjldenhpaa
