/- Crash: what a disk is behind a crash, as the specification says. Conditions: none. -/
import Derived.Test.YtaahlnjldenhpaaLG
import Derived.Test.YtaahlnjldenhpaaLT
import Derived.Test.YtaahlnjldenhpaaLGood
import Derived.Test.YtaahlnjldenhpaaLSegAdd
namespace Go.Proofs.Ytaahlnjldenhpaa
open Go.BL Go.RowKit
set_option linter.unusedVariables false
set_option linter.unusedSimpArgs false
set_option maxRecDepth 100000
attribute [local go_sem] fileC diskC fileC_len diskR
theorem c_l1Max (a b : Int) (K : AV → AH → Prop) (hk : K (.one (.c (.int .i64 (max a b)))) []) : ACalls Try.prog 78 [(.one (.c (.int .i64 (a)))), (.one (.c (.int .i64 (b))))] [] K := by
  refine acall_c Try.f78.results.toList mixed Try.func78 rfl rfl (by kernel_rfl) ?_
  intro Q hQ hQO
  simp only [go_sem]
  (try simp only [go_sem]); repeat' (first | (with_reducible refine c_split (fun hb => ?_) (fun hb => ?_) <;> try simp only [go_sem, hb]) | (with_reducible refine w_split (fun hb => ?_) (fun hb => ?_) <;> try simp only [go_sem, hb]) | (with_reducible refine hQ _ _ ?_ <;> simp only [Try.f78, go_sem]))
  · have h := of_decide_eq_true hb
    rw [show max a b = a by omega] at hk; exact hk
  · have h := of_decide_eq_false hb
    rw [show max a b = b by omega] at hk; exact hk
theorem c_l1Min (a b : Int) (K : AV → AH → Prop) (hk : K (.one (.c (.int .i64 (min a b)))) []) : ACalls Try.prog 77 [(.one (.c (.int .i64 (a)))), (.one (.c (.int .i64 (b))))] [] K := by
  refine acall_c Try.f77.results.toList mixed Try.func77 rfl rfl (by kernel_rfl) ?_
  intro Q hQ hQO
  simp only [go_sem]
  (try simp only [go_sem]); repeat' (first | (with_reducible refine c_split (fun hb => ?_) (fun hb => ?_) <;> try simp only [go_sem, hb]) | (with_reducible refine w_split (fun hb => ?_) (fun hb => ?_) <;> try simp only [go_sem, hb]) | (with_reducible refine hQ _ _ ?_ <;> simp only [Try.f77, go_sem]))
  · have h := of_decide_eq_true hb
    rw [show min a b = a by omega] at hk; exact hk
  · have h := of_decide_eq_false hb
    rw [show min a b = b by omega] at hk; exact hk
def keepN (keep : Int) (f : File) : Int := min (max keep 0) (f.late.size : Int)
def crashF (keep : Int) (f : File) : File := ⟨f.name, f.safe ++ f.late.extract 0 (keepN keep f).toNat, ⟨#[]⟩⟩
def crashR (d : Disk) (keep : Int) : Disk := if diskOk d = true then ⟨d.room, d.files.map (crashF keep)⟩ else ⟨0, []⟩
theorem keep_ok (keep : Int) (f : File) : 0 ≤ keepN keep f ∧ (keepN keep f).toNat ≤ f.late.size := by unfold keepN; omega
theorem c_spec_DiskCrash (d : Disk) (keep : Int) (hn : d.files.length ≤ 1000000000) (hz : SmallF d.files) (K : AV → AH → Prop) (hk : K (.agg (diskC (crashR d keep))) []) : ACalls Try.prog 56 [.agg (diskC d), (.one (.c (.int .i64 (keep))))] [] K := by
  refine acall_c Try.f56.results.toList mixed Try.func56 rfl rfl (by kernel_rfl) ?_
  intro Q hQ hQO
  simp only [go_sem]
  (try simp only [go_sem]); repeat' (first | (with_reducible refine c_split (fun hb => ?_) (fun hb => ?_) <;> try simp only [go_sem, hb]) | (with_reducible refine w_split (fun hb => ?_) (fun hb => ?_) <;> try simp only [go_sem, hb]) | (with_reducible refine tw_split (fun hb => ?_) (fun hb => ?_) <;> try simp only [go_sem, hb]) | (with_reducible refine draw_at 0 28 (by with_unfolding_all rfl) [(0, true, true), (2, true, true), (3, true, true), (4, true, true), (1, false, false), (5, false, false), (6, false, true)] (by kernel_rfl) ?_ <;> try simp only [go_sem]) | (with_reducible refine draw_at 0 34 (by with_unfolding_all rfl) [(0, true, true), (1, true, true), (2, true, false), (3, true, false), (4, true, false), (5, true, false), (6, true, false), (7, true, false), (8, false, false), (9, false, false), (10, false, false), (11, false, false), (12, false, false), (13, false, false), (14, false, true), (15, false, true)] (by kernel_rfl) ?_ <;> try simp only [go_sem]) | (refine call_c (c_spec_DiskOk d hn _ ?_) <;> try simp only [go_sem]) | (fail))
  · rw [crashR, if_neg (by simpa using hb)] at hk
    (try simp only [go_sem]); repeat' (first | (with_reducible refine c_split (fun hb => ?_) (fun hb => ?_) <;> try simp only [go_sem, hb]) | (with_reducible refine w_split (fun hb => ?_) (fun hb => ?_) <;> try simp only [go_sem, hb]) | (with_reducible refine tw_split (fun hb => ?_) (fun hb => ?_) <;> try simp only [go_sem, hb]) | (with_reducible refine draw_at 0 28 (by with_unfolding_all rfl) [(0, true, true), (2, true, true), (3, true, true), (4, true, true), (1, false, false), (5, false, false), (6, false, true)] (by kernel_rfl) ?_ <;> try simp only [go_sem]) | (with_reducible refine draw_at 0 34 (by with_unfolding_all rfl) [(0, true, true), (1, true, true), (2, true, false), (3, true, false), (4, true, false), (5, true, false), (6, true, false), (7, true, false), (8, false, false), (9, false, false), (10, false, false), (11, false, false), (12, false, false), (13, false, false), (14, false, true), (15, false, true)] (by kernel_rfl) ?_ <;> try simp only [go_sem]) | (with_reducible refine hQ _ _ ?_ <;> simp only [Try.f56, go_sem]))
    exact hk
  rw [crashR, if_pos (by simpa using hb)] at hk
  refine for_at (d.files.length) [1, 2, 4, 5] (fun i f h => f 6 = (.one (.c (.int .i64 (i)))) ∧ h = [.own 0 26 2 (some 1) [diskC d], .own 0 26 2 (some 1) [[.c (.int .i64 (0)), .nl]], .own 0 26 2 (some 1) [[.c (.int .i64 (d.room)), .sl 3 i 0 i]], .own i 55 3 none (((d.files.take i).map (crashF keep)).map fileC)]) (GC.step (Ghost.nlc (l := 2) rfl 0 1 rfl rfl 55 3) (GC.now ?_)) ?_
  · simp only [go_sem, nc_0, true_and]
    skip
  · rintro i f h J hi hA ⟨e6, rfl⟩ hJ
    simp only [go_sem] at hA
    simp only [go_sem, hA, e6]
    refine c_split (fun hb => ?_) (fun hb => ?_)
    rotate_left
    · simp only [go_sem, hb, hA, e6]
      obtain rfl := ge_len hb hi
      have htk : List.take d.files.length (List.map fileC (d.files.map (crashF keep))) = List.map fileC (d.files.map (crashF keep)) := List.take_of_length_le (by simp)
      (try simp only [go_sem, hA, e6, List.take_length, htk]); repeat' (first | (with_reducible refine c_split (fun hb => ?_) (fun hb => ?_) <;> try simp only [go_sem, hb, hA, e6, List.take_length, htk]) | (with_reducible refine w_split (fun hb => ?_) (fun hb => ?_) <;> try simp only [go_sem, hb, hA, e6, List.take_length, htk]) | (with_reducible refine tw_split (fun hb => ?_) (fun hb => ?_) <;> try simp only [go_sem, hb, hA, e6, List.take_length, htk]) | (with_reducible refine draw_at 0 28 (by with_unfolding_all rfl) [(0, true, true), (2, true, true), (3, true, true), (4, true, true), (1, false, false), (5, false, false), (6, false, true)] (by kernel_rfl) ?_ <;> try simp only [go_sem, hA, e6, List.take_length, htk]) | (with_reducible refine draw_at 0 34 (by with_unfolding_all rfl) [(0, true, true), (1, true, true), (2, true, false), (3, true, false), (4, true, false), (5, true, false), (6, true, false), (7, true, false), (8, false, false), (9, false, false), (10, false, false), (11, false, false), (12, false, false), (13, false, false), (14, false, true), (15, false, true)] (by kernel_rfl) ?_ <;> try simp only [go_sem, hA, e6, List.take_length, htk]) | (with_reducible refine hQ _ _ ?_ <;> simp only [Try.f56, go_sem, hA, e6, List.take_length, htk]))
      exact hk
    have hi := lt_len hb
    have hw := wrap_nat i (by omega)
    have hil : (i : Int) < ((d.files.length : Nat) : Int) := Int.ofNat_lt.2 hi
    have hg0 : (d.files)[i]? = some ((d.files)[i]) := List.getElem?_eq_getElem (by omega)
    simp only [go_sem, hb, hA, e6, hg0]
    try simp only [go_sem, hA, e6, hil, hg0]
    have hk1 := keep_ok keep d.files[i]
    have hk0 := hk1.1
    have hk2 := hk1.2
    have hcr : (d.files.take (i + 1)).map (crashF keep) = (d.files.take i).map (crashF keep) ++ [⟨d.files[i].name, d.files[i].safe ++ d.files[i].late.extract 0 (keepN keep d.files[i]).toNat, ⟨#[]⟩⟩] := by rw [List.take_succ_eq_append_getElem hi, List.map_append]; rfl
    have hfs := file_small hz hi
    have hli : (d.files.take i).length = i := by simp; omega
    have hkn : min (max keep 0) (d.files[i].late.size : Int) = keepN keep d.files[i] := rfl
    have hsz : d.files[i].safe.size + (d.files[i].late.extract 0 (keepN keep d.files[i]).toNat).size ≤ 9223372036854775807 := by rw [ByteArray.size_extract]; omega
    (try simp only [go_sem, hA, e6, hil, hg0, hkn, hk0, hk2, hsz, Nat.zero_le]); repeat' (first | (with_reducible refine c_split (fun hb => ?_) (fun hb => ?_) <;> try simp only [go_sem, hb, hA, e6, hil, hg0, hkn, hk0, hk2, hsz, Nat.zero_le]) | (with_reducible refine w_split (fun hb => ?_) (fun hb => ?_) <;> try simp only [go_sem, hb, hA, e6, hil, hg0, hkn, hk0, hk2, hsz, Nat.zero_le]) | (with_reducible refine tw_split (fun hb => ?_) (fun hb => ?_) <;> try simp only [go_sem, hb, hA, e6, hil, hg0, hkn, hk0, hk2, hsz, Nat.zero_le]) | (with_reducible refine draw_at 0 28 (by with_unfolding_all rfl) [(0, true, true), (2, true, true), (3, true, true), (4, true, true), (1, false, false), (5, false, false), (6, false, true)] (by kernel_rfl) ?_ <;> try simp only [go_sem, hA, e6, hil, hg0, hkn, hk0, hk2, hsz, Nat.zero_le]) | (with_reducible refine draw_at 0 34 (by with_unfolding_all rfl) [(0, true, true), (1, true, true), (2, true, false), (3, true, false), (4, true, false), (5, true, false), (6, true, false), (7, true, false), (8, false, false), (9, false, false), (10, false, false), (11, false, false), (12, false, false), (13, false, false), (14, false, true), (15, false, true)] (by kernel_rfl) ?_ <;> try simp only [go_sem, hA, e6, hil, hg0, hkn, hk0, hk2, hsz, Nat.zero_le]) | (refine call_c (c_l1Max keep 0 _ ?_) <;> try simp only [go_sem, hA, e6, hil, hg0, hkn, hk0, hk2, hsz, Nat.zero_le]) | (refine call_c (c_l1Min (max keep 0) d.files[i].late.size _ ?_) <;> try simp only [go_sem, hA, e6, hil, hg0, hkn, hk0, hk2, hsz, Nat.zero_le]) | (fail))
    refine ap_end rfl (by simp; omega) (by simp; omega) ?_
    (try simp only [go_sem, hA, e6, hil, hg0, hli]); repeat' (first | (with_reducible refine c_split (fun hb => ?_) (fun hb => ?_) <;> try simp only [go_sem, hb, hA, e6, hil, hg0, hli]) | (with_reducible refine w_split (fun hb => ?_) (fun hb => ?_) <;> try simp only [go_sem, hb, hA, e6, hil, hg0, hli]) | (with_reducible refine tw_split (fun hb => ?_) (fun hb => ?_) <;> try simp only [go_sem, hb, hA, e6, hil, hg0, hli]) | (with_reducible refine draw_at 0 28 (by with_unfolding_all rfl) [(0, true, true), (2, true, true), (3, true, true), (4, true, true), (1, false, false), (5, false, false), (6, false, true)] (by kernel_rfl) ?_ <;> try simp only [go_sem, hA, e6, hil, hg0, hli]) | (with_reducible refine draw_at 0 34 (by with_unfolding_all rfl) [(0, true, true), (1, true, true), (2, true, false), (3, true, false), (4, true, false), (5, true, false), (6, true, false), (7, true, false), (8, false, false), (9, false, false), (10, false, false), (11, false, false), (12, false, false), (13, false, false), (14, false, true), (15, false, true)] (by kernel_rfl) ?_ <;> try simp only [go_sem, hA, e6, hil, hg0, hli]) | (fail))
    refine gc_trim 4 (by decide) (by simp only [go_sem]) (by simp only [go_sem]) (hJ _ _ hi (by simp only [go_sem, hA, e6]) ⟨?_, ?_⟩) <;> try simp only [go_sem, hA, e6, hw, hcr, hli]
theorem crash_size (keep : Int) (f : File) : sizeF (crashF keep f) ≤ sizeF f := by
  have h := (keep_ok keep f).2
  have h0 : (⟨#[]⟩ : ByteArray).size = 0 := rfl
  simp only [sizeF, crashF, ByteArray.size_append, ByteArray.size_extract, h0]
  omega
theorem crash_total (keep : Int) (fs : List File) : total (fs.map (crashF keep)) ≤ total fs := by
  induction fs with
  | nil => exact Nat.le_refl _
  | cons f r ih => rw [List.map_cons, total_cons, total_cons]; have := crash_size keep f; omega
theorem good_crash {d : Disk} (h : Good d) (keep : Int) : Good (crashR d keep) := by
  rw [crashR, if_pos (good_ok h)]
  obtain ⟨h1, h2, h3, h4, h5⟩ := h
  have := crash_total keep d.files
  refine ⟨fun f hf => ?_, ?_, h3, h4, by show ((total (d.files.map (crashF keep)) : Nat) : Int) ≤ d.room; omega⟩
  · obtain ⟨g, hg, rfl⟩ := List.mem_map.1 hf
    exact h1 g hg
  · exact List.Pairwise.map (crashF keep) (fun a b hab => hab) h2
theorem good_mend {d : Disk} (h : Good d) (seg : Int) (hc : (mendR d seg).2 ≠ 1) : Good (mendR d seg).1 := by
  unfold mendR at hc ⊢
  split at hc
  · rename_i ok; rw [if_pos ok]; exact good_cut h seg _ hc
  · exact absurd rfl hc
theorem good_late {d : Disk} (h : Good d) (seg : Int) (s : ByteArray) (hc : (lateR d seg s).2 ≠ 1) : Good (lateR d seg s).1 := by
  unfold lateR at hc ⊢
  split at hc
  · rename_i ok; rw [if_pos ok]; exact good_app h seg _ hc
  · exact absurd rfl hc
theorem good_add {d : Disk} (h : Good d) (seg : Int) (s : ByteArray) (hc : (addR d seg s).2 ≠ 1) : Good (addR d seg s).1 := by
  unfold addR at hc ⊢
  split at hc
  · rename_i ok; rw [if_pos ok]; exact good_sync (good_late h seg s (by rw [ok]; decide)) seg hc
  · rename_i ok; rw [if_neg ok]; exact good_late h seg s hc
end Go.Proofs.Ytaahlnjldenhpaa
