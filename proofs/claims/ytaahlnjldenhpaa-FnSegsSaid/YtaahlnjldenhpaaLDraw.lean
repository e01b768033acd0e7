/- Draw14: the specification's disks, handed on as objects; the disks that are drawn. Conditions: none. -/
import Derived.Test.YtaahlnjldenhpaaLG
import Derived.Test.YtaahlnjldenhpaaLT
import Derived.Test.YtaahlnjldenhpaaLCur
import Derived.Test.YtaahlnjldenhpaaLAppend
namespace Go.Proofs.Ytaahlnjldenhpaa
open Go.BL Go.RowKit
set_option linter.unusedVariables false
set_option linter.unusedSimpArgs false
set_option maxRecDepth 100000
attribute [local go_sem] fileC diskC fileC_len diskR
theorem o_l14Copy (d : Disk) (hn : d.files.length ≤ 1000000000) (K : AV → AH → Prop) (hk : K (.agg [.c (.int .i64 (d.room)), .sl 0 0 0 d.files.length]) [.own 0 55 3 none (d.files.map fileC)]) : ACalls Try.prog 82 [.agg (diskC d)] [] K := by
  refine acall_c Try.f82.results.toList mixed Try.func82 rfl rfl (by kernel_rfl) ?_
  intro Q hQ hQO
  simp only [go_sem]
  (try simp only [go_sem]); repeat' (first | (with_reducible refine c_split (fun hb => ?_) (fun hb => ?_) <;> try simp only [go_sem, hb]) | (with_reducible refine w_split (fun hb => ?_) (fun hb => ?_) <;> try simp only [go_sem, hb]) | (with_reducible refine tw_split (fun hb => ?_) (fun hb => ?_) <;> try simp only [go_sem, hb]) | (with_reducible refine draw_at 0 3 (by with_unfolding_all rfl) [(0, true, true), (1, true, true), (3, true, false), (4, true, false), (2, false, false), (5, false, false), (6, false, false), (7, false, true)] (by kernel_rfl) ?_ <;> try simp only [go_sem]) | (fail))
  refine ap_end rfl rfl (by simp; omega) ?_
  (try simp only [go_sem]); repeat' (first | (with_reducible refine c_split (fun hb => ?_) (fun hb => ?_) <;> try simp only [go_sem, hb]) | (with_reducible refine w_split (fun hb => ?_) (fun hb => ?_) <;> try simp only [go_sem, hb]) | (with_reducible refine tw_split (fun hb => ?_) (fun hb => ?_) <;> try simp only [go_sem, hb]) | (with_reducible refine draw_at 0 3 (by with_unfolding_all rfl) [(0, true, true), (1, true, true), (3, true, false), (4, true, false), (2, false, false), (5, false, false), (6, false, false), (7, false, true)] (by kernel_rfl) ?_ <;> try simp only [go_sem]) | (fail))
  refine hQO [2] _ _ (GC.now ?_) <;> simp only [Try.f82, go_sem, List.nodup_cons, List.nodup_nil, List.mem_cons, List.not_mem_nil, or_false, not_false_eq_true, List.idxOf?_cons, List.idxOf?_nil, Option.map_none, fileC_tk]
  exact hk
theorem o_l14Refused (d : Disk) (code : Int) (hn : d.files.length ≤ 1000000000) (K : AV → AH → Prop) (hk : K (.agg [.c (.int .i64 ((if code = 1 then (⟨0, []⟩ : Disk) else d).room)), .sl 0 0 0 (if code = 1 then (⟨0, []⟩ : Disk) else d).files.length]) [.own 0 55 3 none ((if code = 1 then (⟨0, []⟩ : Disk) else d).files.map fileC)]) : ACalls Try.prog 65 [.agg (diskC d), (.one (.c (.int .i64 (code))))] [] K := by
  refine acall_c Try.f65.results.toList mixed Try.func65 rfl rfl (by kernel_rfl) ?_
  intro Q hQ hQO
  simp only [go_sem]
  (try simp only [go_sem]); repeat' (first | (with_reducible refine c_split (fun hb => ?_) (fun hb => ?_) <;> try simp only [go_sem, hb]) | (with_reducible refine w_split (fun hb => ?_) (fun hb => ?_) <;> try simp only [go_sem, hb]) | (refine call_c (o_l14Copy d hn _ ?_) <;> try simp only [go_sem]) | (fail))
  · rw [if_pos (by simpa using hb)] at hk
    refine hQO [2] _ _ (GC.step (Ghost.nlc (l := 1) rfl 0 1 rfl rfl 55 3) (GC.now ?_)) <;> simp only [Try.f65, go_sem, List.nodup_cons, List.nodup_nil, List.mem_cons, List.not_mem_nil, or_false, not_false_eq_true, List.idxOf?_cons, List.idxOf?_nil, Option.map_none]
    exact hk
  · rw [if_neg (by simpa using hb)] at hk
    refine hQO [2] _ _ (GC.now ?_) <;> simp only [Try.f65, go_sem, List.nodup_cons, List.nodup_nil, List.mem_cons, List.not_mem_nil, or_false, not_false_eq_true, List.idxOf?_cons, List.idxOf?_nil, Option.map_none, fileC_tk]
    exact hk
theorem o_l14Less (d : Disk) (at_ : Nat) (hn : d.files.length ≤ 1000000000) (K : AV → AH → Prop) (hk : K (.agg [.c (.int .i64 ((⟨d.room, d.files.eraseIdx at_⟩ : Disk).room)), .sl 0 0 0 (⟨d.room, d.files.eraseIdx at_⟩ : Disk).files.length]) [.own 0 55 3 none ((⟨d.room, d.files.eraseIdx at_⟩ : Disk).files.map fileC)]) : ACalls Try.prog 91 [.agg (diskC d), (.one (.c (.int .i64 ((at_ : Int)))))] [] K := by
  refine acall_c Try.f91.results.toList mixed Try.func91 rfl rfl (by kernel_rfl) ?_
  intro Q hQ hQO
  simp only [go_sem]
  refine for_at (d.files.length) [1, 2, 4, 5] (fun i f h => f 6 = (.one (.c (.int .i64 (i)))) ∧ h = [.own 0 26 2 (some 1) [diskC d], .own 0 26 2 (some 1) [[.c (.int .i64 (0)), .nl]], .own 0 26 2 (some 1) [[.c (.int .i64 (d.room)), .sl 3 ((d.files.take i).eraseIdx at_).length 0 ((d.files.take i).eraseIdx at_).length]], .own ((d.files.take i).eraseIdx at_).length 55 3 none (((d.files.take i).eraseIdx at_).map fileC)]) (GC.step (Ghost.nlc (l := 2) rfl 0 1 rfl rfl 55 3) (GC.now ?_)) ?_
  · simp only [go_sem, nc_0, true_and]
    simp
  · rintro i f h J hi hA ⟨e6, rfl⟩ hJ
    simp only [go_sem] at hA
    simp only [go_sem, hA, e6]
    refine c_split (fun hb => ?_) (fun hb => ?_)
    rotate_left
    · simp only [go_sem, hb, hA, e6]
      obtain rfl := ge_len hb hi
      (try simp only [go_sem, hA, e6, List.take_length]); repeat' (first | (with_reducible refine c_split (fun hb => ?_) (fun hb => ?_) <;> try simp only [go_sem, hb, hA, e6, List.take_length]) | (with_reducible refine w_split (fun hb => ?_) (fun hb => ?_) <;> try simp only [go_sem, hb, hA, e6, List.take_length]) | (with_reducible refine tw_split (fun hb => ?_) (fun hb => ?_) <;> try simp only [go_sem, hb, hA, e6, List.take_length]) | (with_reducible refine draw_at 0 20 (by with_unfolding_all rfl) [(0, true, true), (1, true, true), (2, true, false), (3, true, false), (4, false, false), (5, false, false), (6, false, false), (7, false, false), (8, false, false), (9, false, true), (10, false, true)] (by kernel_rfl) ?_ <;> try simp only [go_sem, hA, e6, List.take_length]) | (fail))
      refine hQO [3] _ _ (GC.now ?_) <;> simp only [Try.f91, go_sem, List.nodup_cons, List.nodup_nil, List.mem_cons, List.not_mem_nil, or_false, not_false_eq_true, List.idxOf?_cons, List.idxOf?_nil, Option.map_none, hA, e6, fileC_tk, List.take_length]
      exact hk
    have hi := lt_len hb
    have hw := wrap_nat i (by omega)
    have hil : (i : Int) < ((d.files.length : Nat) : Int) := Int.ofNat_lt.2 hi
    have hg0 : (d.files)[i]? = some ((d.files)[i]) := List.getElem?_eq_getElem (by omega)
    simp only [go_sem, hb, hA, e6, hg0]
    try simp only [go_sem, hA, e6, hil, hg0]
    have hlen : ((d.files.take i).eraseIdx at_).length ≤ i := by
      have := List.length_eraseIdx_le (d.files.take i) at_
      simp only [List.length_take] at this
      omega
    have htk : d.files.take (i + 1) = d.files.take i ++ [d.files[i]] := List.take_succ_eq_append_getElem hi
    have hli : (d.files.take i).length = i := by simp; omega
    (try simp only [go_sem, hA, e6, hil, hg0]); repeat' (first | (with_reducible refine c_split (fun hb => ?_) (fun hb => ?_) <;> try simp only [go_sem, hb, hA, e6, hil, hg0]) | (with_reducible refine w_split (fun hb => ?_) (fun hb => ?_) <;> try simp only [go_sem, hb, hA, e6, hil, hg0]) | (with_reducible refine tw_split (fun hb => ?_) (fun hb => ?_) <;> try simp only [go_sem, hb, hA, e6, hil, hg0]) | (with_reducible refine draw_at 0 20 (by with_unfolding_all rfl) [(0, true, true), (1, true, true), (2, true, false), (3, true, false), (4, false, false), (5, false, false), (6, false, false), (7, false, false), (8, false, false), (9, false, true), (10, false, true)] (by kernel_rfl) ?_ <;> try simp only [go_sem, hA, e6, hil, hg0]) | (fail))
    · have he : (d.files.take (i + 1)).eraseIdx at_ = (d.files.take i).eraseIdx at_ ++ [d.files[i]] := by
        have hne : i ≠ at_ := fun e => by subst e; simp at hb
        rcases Nat.lt_or_ge at_ i with h | h
        · rw [htk, List.eraseIdx_append_of_lt_length (by omega)]
        · rw [List.eraseIdx_of_length_le (by simp; omega), List.eraseIdx_of_length_le (by omega), htk]
      refine ap_end rfl (by simp) (by simp; omega) ?_
      (try simp only [go_sem, hA, e6, hil, hg0]); repeat' (first | (with_reducible refine c_split (fun hb => ?_) (fun hb => ?_) <;> try simp only [go_sem, hb, hA, e6, hil, hg0]) | (with_reducible refine w_split (fun hb => ?_) (fun hb => ?_) <;> try simp only [go_sem, hb, hA, e6, hil, hg0]) | (with_reducible refine tw_split (fun hb => ?_) (fun hb => ?_) <;> try simp only [go_sem, hb, hA, e6, hil, hg0]) | (with_reducible refine draw_at 0 20 (by with_unfolding_all rfl) [(0, true, true), (1, true, true), (2, true, false), (3, true, false), (4, false, false), (5, false, false), (6, false, false), (7, false, false), (8, false, false), (9, false, true), (10, false, true)] (by kernel_rfl) ?_ <;> try simp only [go_sem, hA, e6, hil, hg0]) | (fail))
      refine gc_trim 4 (by decide) (by simp only [go_sem]) (by simp only [go_sem]) (hJ _ _ hi (by simp only [go_sem, hA, e6]) ⟨?_, ?_⟩) <;> try simp only [go_sem, hA, e6, hw, he]
    · have he : (d.files.take (i + 1)).eraseIdx at_ = (d.files.take i).eraseIdx at_ := by
        have he2 : i = at_ := Int.ofNat_inj.1 (by simpa using hb)
        subst he2
        have h0 : (d.files.take i).eraseIdx i = d.files.take i := List.eraseIdx_of_length_le (by omega)
        rw [h0, htk, List.eraseIdx_append_of_length_le (by omega), hli, Nat.sub_self]; simp
      refine gc_trim 4 (by decide) (by simp only [go_sem]) (by simp only [go_sem]) (hJ _ _ hi (by simp only [go_sem, hA, e6]) ⟨?_, ?_⟩) <;> try simp only [go_sem, hA, e6, hw, he]
theorem o_l14Put (d : Disk) (x : File) (hn : d.files.length ≤ 1000000000) (hs : SortedF d.files) (K : AV → AH → Prop) (hk : K (.agg [.c (.int .i64 ((⟨d.room, putF d.files x⟩ : Disk).room)), .sl 0 0 0 (⟨d.room, putF d.files x⟩ : Disk).files.length]) [.own 0 55 3 none ((⟨d.room, putF d.files x⟩ : Disk).files.map fileC)]) : ACalls Try.prog 66 [.agg (diskC d), .agg (fileC x)] [] K := by
  rw [← put_fold x d.files hs] at hk
  refine acall_c Try.f66.results.toList mixed Try.func66 rfl rfl (by kernel_rfl) ?_
  intro Q hQ hQO
  simp only [go_sem]
  refine for_at (d.files.length) [2, 3, 4, 5] (fun i f h => f 7 = (.one (.c (.int .i64 (i)))) ∧ f 6 = (.one (.c (.bool ((foldT (stepP x) ([], false) d.files i).2)))) ∧ h = [.own 0 26 2 (some 1) [diskC d], .own 0 55 3 (some 1) [fileC x], .own 0 26 2 (some 1) [[.c (.int .i64 (0)), .nl]], .own 0 26 2 (some 1) [[.c (.int .i64 (d.room)), .sl 4 (foldT (stepP x) ([], false) d.files i).1.length 0 (foldT (stepP x) ([], false) d.files i).1.length]], .own (foldT (stepP x) ([], false) d.files i).1.length 55 3 none ((foldT (stepP x) ([], false) d.files i).1.map fileC)]) (GC.step (Ghost.nlc (l := 3) rfl 0 1 rfl rfl 55 3) (GC.now ?_)) ?_
  · simp only [go_sem, nc_0, true_and]
    simp [foldT_0]
  · rintro i f h J hi hA ⟨e7, e6, rfl⟩ hJ
    simp only [go_sem] at hA
    simp only [go_sem, hA, e7, e6]
    refine c_split (fun hb => ?_) (fun hb => ?_)
    rotate_left
    · simp only [go_sem, hb, hA, e7, e6]
      obtain rfl := ge_len hb hi
      have hlen := foldP_len x d.files d.files.length
      generalize foldT (stepP x) ([], false) d.files d.files.length = s at *
      obtain ⟨out, put⟩ := s
      simp only at hlen
      cases put
      · (try simp only [go_sem, hA, e7, e6]); repeat' (first | (with_reducible refine c_split (fun hb => ?_) (fun hb => ?_) <;> try simp only [go_sem, hb, hA, e7, e6]) | (with_reducible refine w_split (fun hb => ?_) (fun hb => ?_) <;> try simp only [go_sem, hb, hA, e7, e6]) | (with_reducible refine tw_split (fun hb => ?_) (fun hb => ?_) <;> try simp only [go_sem, hb, hA, e7, e6]) | (with_reducible refine draw_at 0 18 (by with_unfolding_all rfl) [(0, false, true), (1, false, true), (2, false, true), (3, true, true), (4, true, true), (5, true, false), (6, true, true), (7, true, false), (8, true, false), (9, false, false), (10, false, false), (11, false, false), (12, false, false)] (by kernel_rfl) ?_ <;> try simp only [go_sem, hA, e7, e6]) | (with_reducible refine draw_at 0 37 (by with_unfolding_all rfl) [(0, true, true), (1, true, true), (2, true, false), (3, true, true), (4, true, false), (5, true, false), (6, false, false), (7, false, false), (8, false, false)] (by kernel_rfl) ?_ <;> try simp only [go_sem, hA, e7, e6]) | (with_reducible refine draw_at 0 46 (by with_unfolding_all rfl) [(0, true, true), (1, true, true), (2, true, false), (3, true, false), (4, false, false), (5, false, false), (6, false, false), (7, false, false), (8, false, false), (9, false, true), (10, false, true)] (by kernel_rfl) ?_ <;> try simp only [go_sem, hA, e7, e6]) | (fail))
        refine ap_end rfl (by simp) (by simp; omega) ?_
        have htk : List.take (out.length + 1) (List.map fileC (out ++ [(⟨x.name, x.safe, x.late⟩ : File)])) = List.map fileC (out ++ [(⟨x.name, x.safe, x.late⟩ : File)]) := List.take_of_length_le (by simp)
        (try simp only [go_sem, hA, e7, e6, htk]); repeat' (first | (with_reducible refine c_split (fun hb => ?_) (fun hb => ?_) <;> try simp only [go_sem, hb, hA, e7, e6, htk]) | (with_reducible refine w_split (fun hb => ?_) (fun hb => ?_) <;> try simp only [go_sem, hb, hA, e7, e6, htk]) | (with_reducible refine tw_split (fun hb => ?_) (fun hb => ?_) <;> try simp only [go_sem, hb, hA, e7, e6, htk]) | (with_reducible refine draw_at 0 18 (by with_unfolding_all rfl) [(0, false, true), (1, false, true), (2, false, true), (3, true, true), (4, true, true), (5, true, false), (6, true, true), (7, true, false), (8, true, false), (9, false, false), (10, false, false), (11, false, false), (12, false, false)] (by kernel_rfl) ?_ <;> try simp only [go_sem, hA, e7, e6, htk]) | (with_reducible refine draw_at 0 37 (by with_unfolding_all rfl) [(0, true, true), (1, true, true), (2, true, false), (3, true, true), (4, true, false), (5, true, false), (6, false, false), (7, false, false), (8, false, false)] (by kernel_rfl) ?_ <;> try simp only [go_sem, hA, e7, e6, htk]) | (with_reducible refine draw_at 0 46 (by with_unfolding_all rfl) [(0, true, true), (1, true, true), (2, true, false), (3, true, false), (4, false, false), (5, false, false), (6, false, false), (7, false, false), (8, false, false), (9, false, true), (10, false, true)] (by kernel_rfl) ?_ <;> try simp only [go_sem, hA, e7, e6, htk]) | (fail))
        refine hQO [4] _ _ (GC.now ?_) <;> simp only [Try.f66, go_sem, List.nodup_cons, List.nodup_nil, List.mem_cons, List.not_mem_nil, or_false, not_false_eq_true, List.idxOf?_cons, List.idxOf?_nil, Option.map_none, hA, e7, e6, htk]
        have hp : putL x (out, false) = out ++ [(⟨x.name, x.safe, x.late⟩ : File)] := rfl
        rw [hp] at hk
        simp only [List.length_append, List.length_singleton] at hk
        exact hk
      · (try simp only [go_sem, hA, e7, e6]); repeat' (first | (with_reducible refine c_split (fun hb => ?_) (fun hb => ?_) <;> try simp only [go_sem, hb, hA, e7, e6]) | (with_reducible refine w_split (fun hb => ?_) (fun hb => ?_) <;> try simp only [go_sem, hb, hA, e7, e6]) | (with_reducible refine tw_split (fun hb => ?_) (fun hb => ?_) <;> try simp only [go_sem, hb, hA, e7, e6]) | (with_reducible refine draw_at 0 18 (by with_unfolding_all rfl) [(0, false, true), (1, false, true), (2, false, true), (3, true, true), (4, true, true), (5, true, false), (6, true, true), (7, true, false), (8, true, false), (9, false, false), (10, false, false), (11, false, false), (12, false, false)] (by kernel_rfl) ?_ <;> try simp only [go_sem, hA, e7, e6]) | (with_reducible refine draw_at 0 37 (by with_unfolding_all rfl) [(0, true, true), (1, true, true), (2, true, false), (3, true, true), (4, true, false), (5, true, false), (6, false, false), (7, false, false), (8, false, false)] (by kernel_rfl) ?_ <;> try simp only [go_sem, hA, e7, e6]) | (with_reducible refine draw_at 0 46 (by with_unfolding_all rfl) [(0, true, true), (1, true, true), (2, true, false), (3, true, false), (4, false, false), (5, false, false), (6, false, false), (7, false, false), (8, false, false), (9, false, true), (10, false, true)] (by kernel_rfl) ?_ <;> try simp only [go_sem, hA, e7, e6]) | (fail))
        refine hQO [4] _ _ (GC.now ?_) <;> simp only [Try.f66, go_sem, List.nodup_cons, List.nodup_nil, List.mem_cons, List.not_mem_nil, or_false, not_false_eq_true, List.idxOf?_cons, List.idxOf?_nil, Option.map_none, hA, e7, e6, fileC_tk]
        exact hk
    have hi := lt_len hb
    have hw := wrap_nat i (by omega)
    have hil : (i : Int) < ((d.files.length : Nat) : Int) := Int.ofNat_lt.2 hi
    have hg0 : (d.files)[i]? = some ((d.files)[i]) := List.getElem?_eq_getElem (by omega)
    simp only [go_sem, hb, hA, e7, e6, hg0]
    try simp only [go_sem, hA, e7, e6, hil, hg0]
    have hlen := foldP_len x d.files i
    have hst := foldT_s (stepP x) ([], false) d.files i hi
    generalize foldT (stepP x) ([], false) d.files i = s at *
    obtain ⟨out, put⟩ := s
    simp only at hlen hst
    cases put
    · (try simp only [go_sem, hA, e7, e6, hil, hg0]); repeat' (first | (with_reducible refine c_split (fun hb => ?_) (fun hb => ?_) <;> try simp only [go_sem, hb, hA, e7, e6, hil, hg0]) | (with_reducible refine w_split (fun hb => ?_) (fun hb => ?_) <;> try simp only [go_sem, hb, hA, e7, e6, hil, hg0]) | (with_reducible refine tw_split (fun hb => ?_) (fun hb => ?_) <;> try simp only [go_sem, hb, hA, e7, e6, hil, hg0]) | (with_reducible refine draw_at 0 18 (by with_unfolding_all rfl) [(0, false, true), (1, false, true), (2, false, true), (3, true, true), (4, true, true), (5, true, false), (6, true, true), (7, true, false), (8, true, false), (9, false, false), (10, false, false), (11, false, false), (12, false, false)] (by kernel_rfl) ?_ <;> try simp only [go_sem, hA, e7, e6, hil, hg0]) | (with_reducible refine draw_at 0 37 (by with_unfolding_all rfl) [(0, true, true), (1, true, true), (2, true, false), (3, true, true), (4, true, false), (5, true, false), (6, false, false), (7, false, false), (8, false, false)] (by kernel_rfl) ?_ <;> try simp only [go_sem, hA, e7, e6, hil, hg0]) | (with_reducible refine draw_at 0 46 (by with_unfolding_all rfl) [(0, true, true), (1, true, true), (2, true, false), (3, true, false), (4, false, false), (5, false, false), (6, false, false), (7, false, false), (8, false, false), (9, false, true), (10, false, true)] (by kernel_rfl) ?_ <;> try simp only [go_sem, hA, e7, e6, hil, hg0]) | (fail))
      · have h1 : x.name ≤ d.files[i].name := of_decide_eq_true hb
        refine ap_end rfl (by simp) (by simp; omega) ?_
        (try simp only [go_sem, hA, e7, e6, hil, hg0]); repeat' (first | (with_reducible refine c_split (fun hb => ?_) (fun hb => ?_) <;> try simp only [go_sem, hb, hA, e7, e6, hil, hg0]) | (with_reducible refine w_split (fun hb => ?_) (fun hb => ?_) <;> try simp only [go_sem, hb, hA, e7, e6, hil, hg0]) | (with_reducible refine tw_split (fun hb => ?_) (fun hb => ?_) <;> try simp only [go_sem, hb, hA, e7, e6, hil, hg0]) | (with_reducible refine draw_at 0 18 (by with_unfolding_all rfl) [(0, false, true), (1, false, true), (2, false, true), (3, true, true), (4, true, true), (5, true, false), (6, true, true), (7, true, false), (8, true, false), (9, false, false), (10, false, false), (11, false, false), (12, false, false)] (by kernel_rfl) ?_ <;> try simp only [go_sem, hA, e7, e6, hil, hg0]) | (with_reducible refine draw_at 0 37 (by with_unfolding_all rfl) [(0, true, true), (1, true, true), (2, true, false), (3, true, true), (4, true, false), (5, true, false), (6, false, false), (7, false, false), (8, false, false)] (by kernel_rfl) ?_ <;> try simp only [go_sem, hA, e7, e6, hil, hg0]) | (with_reducible refine draw_at 0 46 (by with_unfolding_all rfl) [(0, true, true), (1, true, true), (2, true, false), (3, true, false), (4, false, false), (5, false, false), (6, false, false), (7, false, false), (8, false, false), (9, false, true), (10, false, true)] (by kernel_rfl) ?_ <;> try simp only [go_sem, hA, e7, e6, hil, hg0]) | (fail))
        · have h2 : ¬ d.files[i].name = x.name := by simpa using hb
          have hst2 : foldT (stepP x) ([], false) d.files (i + 1) = ((out ++ [x]) ++ [d.files[i]], true) := by rw [hst]; simp [stepP, h1, h2]
          refine ap_end rfl (by simp) (by simp; omega) ?_
          (try simp only [go_sem, hA, e7, e6, hil, hg0]); repeat' (first | (with_reducible refine c_split (fun hb => ?_) (fun hb => ?_) <;> try simp only [go_sem, hb, hA, e7, e6, hil, hg0]) | (with_reducible refine w_split (fun hb => ?_) (fun hb => ?_) <;> try simp only [go_sem, hb, hA, e7, e6, hil, hg0]) | (with_reducible refine tw_split (fun hb => ?_) (fun hb => ?_) <;> try simp only [go_sem, hb, hA, e7, e6, hil, hg0]) | (with_reducible refine draw_at 0 18 (by with_unfolding_all rfl) [(0, false, true), (1, false, true), (2, false, true), (3, true, true), (4, true, true), (5, true, false), (6, true, true), (7, true, false), (8, true, false), (9, false, false), (10, false, false), (11, false, false), (12, false, false)] (by kernel_rfl) ?_ <;> try simp only [go_sem, hA, e7, e6, hil, hg0]) | (with_reducible refine draw_at 0 37 (by with_unfolding_all rfl) [(0, true, true), (1, true, true), (2, true, false), (3, true, true), (4, true, false), (5, true, false), (6, false, false), (7, false, false), (8, false, false)] (by kernel_rfl) ?_ <;> try simp only [go_sem, hA, e7, e6, hil, hg0]) | (with_reducible refine draw_at 0 46 (by with_unfolding_all rfl) [(0, true, true), (1, true, true), (2, true, false), (3, true, false), (4, false, false), (5, false, false), (6, false, false), (7, false, false), (8, false, false), (9, false, true), (10, false, true)] (by kernel_rfl) ?_ <;> try simp only [go_sem, hA, e7, e6, hil, hg0]) | (fail))
          refine gc_trim 5 (by decide) (by simp only [go_sem]) (by simp only [go_sem]) (hJ _ _ hi (by simp only [go_sem, hA, e7, e6]) ⟨?_, ?_, ?_⟩) <;> try simp only [go_sem, hA, e7, e6, hw, hst2]
        · have h2 : d.files[i].name = x.name := by simpa using hb
          have hst2 : foldT (stepP x) ([], false) d.files (i + 1) = (out ++ [x], true) := by rw [hst]; simp [stepP, h1, h2]
          refine gc_trim 5 (by decide) (by simp only [go_sem]) (by simp only [go_sem]) (hJ _ _ hi (by simp only [go_sem, hA, e7, e6]) ⟨?_, ?_, ?_⟩) <;> try simp only [go_sem, hA, e7, e6, hw, hst2]
      · rename_i hb1
        have h1 : ¬ x.name ≤ d.files[i].name := of_decide_eq_false hb1
        have h2 : ¬ d.files[i].name = x.name := by omega
        have hst2 : foldT (stepP x) ([], false) d.files (i + 1) = (out ++ [d.files[i]], false) := by rw [hst]; simp [stepP, h1, h2]
        refine ap_end rfl (by simp) (by simp; omega) ?_
        (try simp only [go_sem, hA, e7, e6, hil, hg0]); repeat' (first | (with_reducible refine c_split (fun hb => ?_) (fun hb => ?_) <;> try simp only [go_sem, hb, hA, e7, e6, hil, hg0]) | (with_reducible refine w_split (fun hb => ?_) (fun hb => ?_) <;> try simp only [go_sem, hb, hA, e7, e6, hil, hg0]) | (with_reducible refine tw_split (fun hb => ?_) (fun hb => ?_) <;> try simp only [go_sem, hb, hA, e7, e6, hil, hg0]) | (with_reducible refine draw_at 0 18 (by with_unfolding_all rfl) [(0, false, true), (1, false, true), (2, false, true), (3, true, true), (4, true, true), (5, true, false), (6, true, true), (7, true, false), (8, true, false), (9, false, false), (10, false, false), (11, false, false), (12, false, false)] (by kernel_rfl) ?_ <;> try simp only [go_sem, hA, e7, e6, hil, hg0]) | (with_reducible refine draw_at 0 37 (by with_unfolding_all rfl) [(0, true, true), (1, true, true), (2, true, false), (3, true, true), (4, true, false), (5, true, false), (6, false, false), (7, false, false), (8, false, false)] (by kernel_rfl) ?_ <;> try simp only [go_sem, hA, e7, e6, hil, hg0]) | (with_reducible refine draw_at 0 46 (by with_unfolding_all rfl) [(0, true, true), (1, true, true), (2, true, false), (3, true, false), (4, false, false), (5, false, false), (6, false, false), (7, false, false), (8, false, false), (9, false, true), (10, false, true)] (by kernel_rfl) ?_ <;> try simp only [go_sem, hA, e7, e6, hil, hg0]) | (fail))
        refine gc_trim 5 (by decide) (by simp only [go_sem]) (by simp only [go_sem]) (hJ _ _ hi (by simp only [go_sem, hA, e7, e6]) ⟨?_, ?_, ?_⟩) <;> try simp only [go_sem, hA, e7, e6, hw, hst2]
      · rename_i hb1
        have h1 : ¬ x.name ≤ d.files[i].name := of_decide_eq_false hb1
        have h2 : d.files[i].name = x.name := by simpa using hb
        omega
    · (try simp only [go_sem, hA, e7, e6, hil, hg0]); repeat' (first | (with_reducible refine c_split (fun hb => ?_) (fun hb => ?_) <;> try simp only [go_sem, hb, hA, e7, e6, hil, hg0]) | (with_reducible refine w_split (fun hb => ?_) (fun hb => ?_) <;> try simp only [go_sem, hb, hA, e7, e6, hil, hg0]) | (with_reducible refine tw_split (fun hb => ?_) (fun hb => ?_) <;> try simp only [go_sem, hb, hA, e7, e6, hil, hg0]) | (with_reducible refine draw_at 0 18 (by with_unfolding_all rfl) [(0, false, true), (1, false, true), (2, false, true), (3, true, true), (4, true, true), (5, true, false), (6, true, true), (7, true, false), (8, true, false), (9, false, false), (10, false, false), (11, false, false), (12, false, false)] (by kernel_rfl) ?_ <;> try simp only [go_sem, hA, e7, e6, hil, hg0]) | (with_reducible refine draw_at 0 37 (by with_unfolding_all rfl) [(0, true, true), (1, true, true), (2, true, false), (3, true, true), (4, true, false), (5, true, false), (6, false, false), (7, false, false), (8, false, false)] (by kernel_rfl) ?_ <;> try simp only [go_sem, hA, e7, e6, hil, hg0]) | (with_reducible refine draw_at 0 46 (by with_unfolding_all rfl) [(0, true, true), (1, true, true), (2, true, false), (3, true, false), (4, false, false), (5, false, false), (6, false, false), (7, false, false), (8, false, false), (9, false, true), (10, false, true)] (by kernel_rfl) ?_ <;> try simp only [go_sem, hA, e7, e6, hil, hg0]) | (fail))
      · have h2 : ¬ d.files[i].name = x.name := by simpa using hb
        have hst2 : foldT (stepP x) ([], false) d.files (i + 1) = (out ++ [d.files[i]], true) := by rw [hst]; simp [stepP, h2]
        refine ap_end rfl (by simp) (by simp; omega) ?_
        (try simp only [go_sem, hA, e7, e6, hil, hg0]); repeat' (first | (with_reducible refine c_split (fun hb => ?_) (fun hb => ?_) <;> try simp only [go_sem, hb, hA, e7, e6, hil, hg0]) | (with_reducible refine w_split (fun hb => ?_) (fun hb => ?_) <;> try simp only [go_sem, hb, hA, e7, e6, hil, hg0]) | (with_reducible refine tw_split (fun hb => ?_) (fun hb => ?_) <;> try simp only [go_sem, hb, hA, e7, e6, hil, hg0]) | (with_reducible refine draw_at 0 18 (by with_unfolding_all rfl) [(0, false, true), (1, false, true), (2, false, true), (3, true, true), (4, true, true), (5, true, false), (6, true, true), (7, true, false), (8, true, false), (9, false, false), (10, false, false), (11, false, false), (12, false, false)] (by kernel_rfl) ?_ <;> try simp only [go_sem, hA, e7, e6, hil, hg0]) | (with_reducible refine draw_at 0 37 (by with_unfolding_all rfl) [(0, true, true), (1, true, true), (2, true, false), (3, true, true), (4, true, false), (5, true, false), (6, false, false), (7, false, false), (8, false, false)] (by kernel_rfl) ?_ <;> try simp only [go_sem, hA, e7, e6, hil, hg0]) | (with_reducible refine draw_at 0 46 (by with_unfolding_all rfl) [(0, true, true), (1, true, true), (2, true, false), (3, true, false), (4, false, false), (5, false, false), (6, false, false), (7, false, false), (8, false, false), (9, false, true), (10, false, true)] (by kernel_rfl) ?_ <;> try simp only [go_sem, hA, e7, e6, hil, hg0]) | (fail))
        refine gc_trim 5 (by decide) (by simp only [go_sem]) (by simp only [go_sem]) (hJ _ _ hi (by simp only [go_sem, hA, e7, e6]) ⟨?_, ?_, ?_⟩) <;> try simp only [go_sem, hA, e7, e6, hw, hst2]
      · have h2 : d.files[i].name = x.name := by simpa using hb
        have hst2 : foldT (stepP x) ([], false) d.files (i + 1) = (out, true) := by rw [hst]; simp [stepP, h2]
        refine gc_trim 5 (by decide) (by simp only [go_sem]) (by simp only [go_sem]) (hJ _ _ hi (by simp only [go_sem, hA, e7, e6]) ⟨?_, ?_, ?_⟩) <;> try simp only [go_sem, hA, e7, e6, hw, hst2]
theorem o_DiskAppend (d : Disk) (name : Int) (s : ByteArray) (hn : d.files.length ≤ 1000000000) (hz : SmallF d.files) (hs : s.size ≤ 1000000000000) (K : AV → AH → Prop) (hk : K (.tup [.agg [.c (.int .i64 ((appR d name s).1.room)), .sl 0 0 0 (appR d name s).1.files.length], (.one (.c (.int .i64 ((appR d name s).2))))]) [.own 0 55 3 none ((appR d name s).1.files.map fileC)]) : ACalls Try.prog 72 [.agg (diskC d), (.one (.c (.int .i64 (name)))), (.one (.c (.string (s))))] [] K := by
  refine acall_c Try.f72.results.toList mixed Try.func72 rfl rfl (by kernel_rfl) ?_
  intro Q hQ hQO
  simp only [go_sem]
  (try simp only [go_sem]); repeat' (first | (with_reducible refine c_split (fun hb => ?_) (fun hb => ?_) <;> try simp only [go_sem, hb]) | (with_reducible refine w_split (fun hb => ?_) (fun hb => ?_) <;> try simp only [go_sem, hb]) | (with_reducible refine tw_split (fun hb => ?_) (fun hb => ?_) <;> try simp only [go_sem, hb]) | (with_reducible refine draw_at 0 21 (by with_unfolding_all rfl) [(0, true, true), (1, true, true), (2, true, true), (3, true, true), (4, false, false), (5, false, false), (6, false, true), (7, false, true), (8, false, true)] (by kernel_rfl) ?_ <;> try simp only [go_sem]) | (refine call_c (c_spec_DiskOk d hn _ ?_) <;> try simp only [go_sem]) | (refine call_c (c_l14Name _ _ ?_) <;> try simp only [go_sem]) | (refine call_c (c_l14Size d hn _ ?_) <;> try simp only [go_sem]) | (fail))
  · rw [appR, if_neg (noN1 hb)] at hk
    (try simp only [go_sem]); repeat' (first | (with_reducible refine c_split (fun hb => ?_) (fun hb => ?_) <;> try simp only [go_sem, hb]) | (with_reducible refine w_split (fun hb => ?_) (fun hb => ?_) <;> try simp only [go_sem, hb]) | (with_reducible refine tw_split (fun hb => ?_) (fun hb => ?_) <;> try simp only [go_sem, hb]) | (with_reducible refine draw_at 0 21 (by with_unfolding_all rfl) [(0, true, true), (1, true, true), (2, true, true), (3, true, true), (4, false, false), (5, false, false), (6, false, true), (7, false, true), (8, false, true)] (by kernel_rfl) ?_ <;> try simp only [go_sem]) | (fail))
    refine hQO [2] _ _ (GC.step (Ghost.nlc (l := 1) rfl 0 1 rfl rfl 55 3) (GC.now ?_)) <;> simp only [Try.f72, go_sem, List.nodup_cons, List.nodup_nil, List.mem_cons, List.not_mem_nil, or_false, not_false_eq_true, List.idxOf?_cons, List.idxOf?_nil, Option.map_none]
    exact hk
  · rw [appR, if_neg (noN2 hb)] at hk
    (try simp only [go_sem]); repeat' (first | (with_reducible refine c_split (fun hb => ?_) (fun hb => ?_) <;> try simp only [go_sem, hb]) | (with_reducible refine w_split (fun hb => ?_) (fun hb => ?_) <;> try simp only [go_sem, hb]) | (with_reducible refine tw_split (fun hb => ?_) (fun hb => ?_) <;> try simp only [go_sem, hb]) | (with_reducible refine draw_at 0 21 (by with_unfolding_all rfl) [(0, true, true), (1, true, true), (2, true, true), (3, true, true), (4, false, false), (5, false, false), (6, false, true), (7, false, true), (8, false, true)] (by kernel_rfl) ?_ <;> try simp only [go_sem]) | (fail))
    refine hQO [2] _ _ (GC.step (Ghost.nlc (l := 1) rfl 0 1 rfl rfl 55 3) (GC.now ?_)) <;> simp only [Try.f72, go_sem, List.nodup_cons, List.nodup_nil, List.mem_cons, List.not_mem_nil, or_false, not_false_eq_true, List.idxOf?_cons, List.idxOf?_nil, Option.map_none]
    exact hk
  all_goals rename_i hb1 hb2
  · have ok := okN hb1 hb2
    rw [appR, if_pos ok] at hk
    obtain ⟨w1, w2⟩ := full_w (s := s) hz hs ok.1
    rw [w1] at hb
    rw [if_pos (by have := of_decide_eq_true hb; omega)] at hk
    (try simp only [go_sem]); repeat' (first | (with_reducible refine c_split (fun hb => ?_) (fun hb => ?_) <;> try simp only [go_sem, hb]) | (with_reducible refine w_split (fun hb => ?_) (fun hb => ?_) <;> try simp only [go_sem, hb]) | (with_reducible refine tw_split (fun hb => ?_) (fun hb => ?_) <;> try simp only [go_sem, hb]) | (with_reducible refine draw_at 0 21 (by with_unfolding_all rfl) [(0, true, true), (1, true, true), (2, true, true), (3, true, true), (4, false, false), (5, false, false), (6, false, true), (7, false, true), (8, false, true)] (by kernel_rfl) ?_ <;> try simp only [go_sem]) | (refine call_c (o_l14Copy d hn _ ?_) <;> try simp only [go_sem]) | (fail))
    refine hQO [2] _ _ (GC.now ?_) <;> simp only [Try.f72, go_sem, List.nodup_cons, List.nodup_nil, List.mem_cons, List.not_mem_nil, or_false, not_false_eq_true, List.idxOf?_cons, List.idxOf?_nil, Option.map_none, fileC_tk]
    exact hk
  · have ok := okN hb1 hb2
    rw [appR, if_pos ok] at hk
    obtain ⟨w1, w2⟩ := full_w (s := s) hz hs ok.1
    rw [w1] at hb
    rw [if_neg (by have := of_decide_eq_false hb; omega)] at hk
    refine call_c (c_l14Find d name hn _ ?_)
    rcases findG_find (fun f => f.name == name) d.files with ⟨h1, h2⟩ | ⟨i, hi, h1, h3, h2⟩
    · rw [addF, h2] at hk
      simp only at hk
      have hsz : (ByteArray.mk #[]).size + s.size ≤ 9223372036854775807 := by show 0 + s.size ≤ _; omega
      (try simp only [go_sem, h1, Int.reduceLE, Int.reduceNeg]); repeat' (first | (with_reducible refine c_split (fun hb => ?_) (fun hb => ?_) <;> try simp only [go_sem, hb, h1, Int.reduceLE, Int.reduceNeg]) | (with_reducible refine w_split (fun hb => ?_) (fun hb => ?_) <;> try simp only [go_sem, hb, h1, Int.reduceLE, Int.reduceNeg]) | (with_reducible refine tw_split (fun hb => ?_) (fun hb => ?_) <;> try simp only [go_sem, hb, h1, Int.reduceLE, Int.reduceNeg]) | (with_reducible refine draw_at 0 21 (by with_unfolding_all rfl) [(0, true, true), (1, true, true), (2, true, true), (3, true, true), (4, false, false), (5, false, false), (6, false, true), (7, false, true), (8, false, true)] (by kernel_rfl) ?_ <;> try simp only [go_sem, h1, Int.reduceLE, Int.reduceNeg]) | (fail))
      rw [b_sadd (hs := hsz)]
      (try simp only [go_sem]); repeat' (first | (with_reducible refine c_split (fun hb => ?_) (fun hb => ?_) <;> try simp only [go_sem, hb]) | (with_reducible refine w_split (fun hb => ?_) (fun hb => ?_) <;> try simp only [go_sem, hb]) | (with_reducible refine tw_split (fun hb => ?_) (fun hb => ?_) <;> try simp only [go_sem, hb]) | (with_reducible refine draw_at 0 21 (by with_unfolding_all rfl) [(0, true, true), (1, true, true), (2, true, true), (3, true, true), (4, false, false), (5, false, false), (6, false, true), (7, false, true), (8, false, true)] (by kernel_rfl) ?_ <;> try simp only [go_sem]) | (refine call_c (o_l14Put d ⟨name, ⟨#[]⟩, (⟨#[]⟩ : ByteArray) ++ s⟩ hn (disk_sorted ok.1) _ ?_) <;> try simp only [go_sem]) | (fail))
      refine hQO [3] _ _ (GC.now ?_) <;> simp only [Try.f72, go_sem, List.nodup_cons, List.nodup_nil, List.mem_cons, List.not_mem_nil, or_false, not_false_eq_true, List.idxOf?_cons, List.idxOf?_nil, Option.map_none, fileC_tk]
      exact hk
    · rw [addF, h2] at hk
      simp only at hk
      have hg : d.files[i]? = some d.files[i] := List.getElem?_eq_getElem hi
      have hsz : d.files[i].late.size + s.size ≤ 9223372036854775807 := by have := file_small hz hi; omega
      (try simp only [go_sem, h1, hg, hsz]); repeat' (first | (with_reducible refine c_split (fun hb => ?_) (fun hb => ?_) <;> try simp only [go_sem, hb, h1, hg, hsz]) | (with_reducible refine w_split (fun hb => ?_) (fun hb => ?_) <;> try simp only [go_sem, hb, h1, hg, hsz]) | (with_reducible refine tw_split (fun hb => ?_) (fun hb => ?_) <;> try simp only [go_sem, hb, h1, hg, hsz]) | (with_reducible refine draw_at 0 21 (by with_unfolding_all rfl) [(0, true, true), (1, true, true), (2, true, true), (3, true, true), (4, false, false), (5, false, false), (6, false, true), (7, false, true), (8, false, true)] (by kernel_rfl) ?_ <;> try simp only [go_sem, h1, hg, hsz]) | (refine call_c (o_l14Put d ⟨d.files[i].name, d.files[i].safe, d.files[i].late ++ s⟩ hn (disk_sorted ok.1) _ ?_) <;> try simp only [go_sem, h1, hg, hsz]) | (fail))
      refine hQO [3] _ _ (GC.now ?_) <;> simp only [Try.f72, go_sem, List.nodup_cons, List.nodup_nil, List.mem_cons, List.not_mem_nil, or_false, not_false_eq_true, List.idxOf?_cons, List.idxOf?_nil, Option.map_none, fileC_tk]
      exact hk
theorem o_DiskSync (d : Disk) (name : Int) (hn : d.files.length ≤ 1000000000) (hz : SmallF d.files) (K : AV → AH → Prop) (hk : K (.tup [.agg [.c (.int .i64 ((syncR d name).1.room)), .sl 0 0 0 (syncR d name).1.files.length], (.one (.c (.int .i64 ((syncR d name).2))))]) [.own 0 55 3 none ((syncR d name).1.files.map fileC)]) : ACalls Try.prog 50 [.agg (diskC d), (.one (.c (.int .i64 (name))))] [] K := by
  refine acall_c Try.f50.results.toList mixed Try.func50 rfl rfl (by kernel_rfl) ?_
  intro Q hQ hQO
  simp only [go_sem]
  refine call_c (c_l14At d name hn _ ?_)
  rcases atR_cases d name with ⟨ok, h1⟩ | ⟨ok, ⟨h1, h2⟩ | ⟨i, hi, h1, h3, h2⟩⟩
  · rw [syncR, if_neg ok] at hk
    (try simp only [go_sem, h1]); repeat' (first | (with_reducible refine c_split (fun hb => ?_) (fun hb => ?_) <;> try simp only [go_sem, hb, h1]) | (with_reducible refine w_split (fun hb => ?_) (fun hb => ?_) <;> try simp only [go_sem, hb, h1]) | (refine call_c (o_l14Refused d 1 hn _ ?_) <;> try simp only [go_sem, h1]) | (fail))
    refine hQO [2] _ _ (GC.now ?_) <;> simp only [Try.f50, go_sem, List.nodup_cons, List.nodup_nil, List.mem_cons, List.not_mem_nil, or_false, not_false_eq_true, List.idxOf?_cons, List.idxOf?_nil, Option.map_none, fileC_tk]
    exact hk
  · rw [syncR, if_pos ok, h2] at hk
    simp only at hk
    (try simp only [go_sem, h1]); repeat' (first | (with_reducible refine c_split (fun hb => ?_) (fun hb => ?_) <;> try simp only [go_sem, hb, h1]) | (with_reducible refine w_split (fun hb => ?_) (fun hb => ?_) <;> try simp only [go_sem, hb, h1]) | (refine call_c (o_l14Refused d 2 hn _ ?_) <;> try simp only [go_sem, h1]) | (fail))
    refine hQO [2] _ _ (GC.now ?_) <;> simp only [Try.f50, go_sem, List.nodup_cons, List.nodup_nil, List.mem_cons, List.not_mem_nil, or_false, not_false_eq_true, List.idxOf?_cons, List.idxOf?_nil, Option.map_none, fileC_tk]
    exact hk
  · rw [syncR, if_pos ok, h2] at hk
    simp only at hk
    have hg : d.files[i]? = some d.files[i] := List.getElem?_eq_getElem hi
    have hsz : d.files[i].safe.size + d.files[i].late.size ≤ 9223372036854775807 := by have := file_small hz hi; omega
    (try simp only [go_sem, h1, hg, hsz, BEq.rfl]); repeat' (first | (with_reducible refine c_split (fun hb => ?_) (fun hb => ?_) <;> try simp only [go_sem, hb, h1, hg, hsz, BEq.rfl]) | (with_reducible refine w_split (fun hb => ?_) (fun hb => ?_) <;> try simp only [go_sem, hb, h1, hg, hsz, BEq.rfl]) | (refine call_c (o_l14Put d ⟨name, d.files[i].safe ++ d.files[i].late, ⟨#[]⟩⟩ hn (disk_sorted ok.1) _ ?_) <;> try simp only [go_sem, h1, hg, hsz, BEq.rfl]) | (fail))
    refine hQO [3] _ _ (GC.now ?_) <;> simp only [Try.f50, go_sem, List.nodup_cons, List.nodup_nil, List.mem_cons, List.not_mem_nil, or_false, not_false_eq_true, List.idxOf?_cons, List.idxOf?_nil, Option.map_none, fileC_tk]
    exact hk
end Go.Proofs.Ytaahlnjldenhpaa
