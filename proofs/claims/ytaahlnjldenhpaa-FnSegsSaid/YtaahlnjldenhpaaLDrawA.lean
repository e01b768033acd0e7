/- DrawA: a disk, a segment and a text, drawn; the program's crash. Conditions: none. -/
import Derived.Test.YtaahlnjldenhpaaLG
import Derived.Test.YtaahlnjldenhpaaLT
import Derived.Test.YtaahlnjldenhpaaLSegLaw
import Derived.Test.YtaahlnjldenhpaaLDrawC
namespace Go.Proofs.Ytaahlnjldenhpaa
open Go.BL Go.RowKit
set_option linter.unusedVariables false
set_option linter.unusedSimpArgs false
set_option maxRecDepth 100000
attribute [local go_sem] fileC diskC fileC_len diskR
def crashTo (keep : Int) (fs : List File) (i : Nat) : List File := (fs.map (crashF keep)).take i ++ fs.drop i
theorem crashTo_0 (keep : Int) (fs : List File) : crashTo keep fs 0 = fs := rfl
theorem crashTo_n (keep : Int) (fs : List File) : crashTo keep fs fs.length = fs.map (crashF keep) := by
  rw [crashTo, List.drop_length, List.append_nil, List.take_of_length_le (by simp)]
theorem crashTo_len (keep : Int) (fs : List File) (i : Nat) : (crashTo keep fs i).length = fs.length := by simp [crashTo]; omega
theorem crashTo_s (keep : Int) (fs : List File) (i : Nat) (hi : i < fs.length) : (crashTo keep fs i).set i ⟨fs[i].name, fs[i].safe ++ fs[i].late.extract 0 (keepN keep fs[i]).toNat, ⟨#[]⟩⟩ = crashTo keep fs (i + 1) := by
  have h1 : ((fs.map (crashF keep)).take i).length = i := by simp; omega
  have h2 : (fs.map (crashF keep)).take (i + 1) = (fs.map (crashF keep)).take i ++ [crashF keep fs[i]] := by
    rw [List.take_succ_eq_append_getElem (by simpa using hi), List.getElem_map]
  rw [crashTo, crashTo, List.set_append_right _ _ (by omega), h1, Nat.sub_self, List.drop_eq_getElem_cons hi, List.set_cons_zero, h2, List.append_assoc]
  rfl
theorem crashTo_get (keep : Int) (fs : List File) (i : Nat) (hi : i < fs.length) : (crashTo keep fs i)[i]? = some fs[i] := by
  have h1 : ((fs.map (crashF keep)).take i).length = i := by simp; omega
  rw [crashTo, List.getElem?_append_right (by omega), h1, Nat.sub_self, List.drop_eq_getElem_cons hi]; rfl
theorem keep_mm (keep : Int) (f : File) : (if 0 < (if (f.late.size : Int) < keep then (f.late.size : Int) else keep) then (if (f.late.size : Int) < keep then (f.late.size : Int) else keep) else 0) = keepN keep f := by
  unfold keepN; split <;> split <;> omega
theorem c_impl_DiskCrash (d : Disk) (keep : Int) (hn : d.files.length ≤ 1000000000) (hz : SmallF d.files) (K : AV → AH → Prop)
    (hk : K (.agg [.c (.int .i64 ((crashR d keep).room)), .sl 0 0 0 (crashR d keep).files.length]) [.own 0 55 3 none ((crashR d keep).files.map fileC)]) : ACalls Try.prog 22 [.agg (diskC d), (.one (.c (.int .i64 (keep))))] [] K := by
  refine acall_c Try.f22.results.toList mixed Try.func22 rfl rfl (by kernel_rfl) ?_
  intro Q hQ hQO
  simp only [go_sem]
  (try simp only [go_sem]); repeat' (first | (with_reducible refine c_split (fun hb => ?_) (fun hb => ?_) <;> try simp only [go_sem, hb]) | (with_reducible refine w_split (fun hb => ?_) (fun hb => ?_) <;> try simp only [go_sem, hb]) | (with_reducible refine tw_split (fun hb => ?_) (fun hb => ?_) <;> try simp only [go_sem, hb]) | (with_reducible refine draw_at 0 22 (by with_unfolding_all rfl) [(0, true, true), (1, true, true), (2, true, false), (3, true, false), (4, true, false), (5, true, false), (6, true, false), (7, true, false), (8, true, false), (9, true, false), (10, false, false), (11, false, false), (12, false, false), (13, false, false), (14, false, false), (15, false, false), (16, false, false), (17, false, false), (18, false, true), (19, false, true)] (by kernel_rfl) ?_ <;> try simp only [go_sem]) | (refine call_c (c_impl_DiskOk d hn _ ?_) <;> try simp only [go_sem]) | (refine call_c (c_cloneDisk d hn _ (fun cap => ?_)) <;> try simp only [go_sem]) | (fail))
  · refine hQO [2] _ _ (GC.step (Ghost.nlc (l := 1) rfl 0 1 rfl rfl 55 3) (GC.now ?_)) <;> simp only [Try.f22, go_sem, List.nodup_cons, List.nodup_nil, List.mem_cons, List.not_mem_nil, or_false, not_false_eq_true, List.idxOf?_cons, List.idxOf?_nil, Option.map_none]
    rw [crashR, if_neg (fun q => by simp [q] at hb)] at hk
    exact hk
  · rw [crashR, if_pos (by simpa using hb)] at hk
    refine for_at (d.files.length) [1, 4, 5, 15, 16] (fun i f h => f 17 = (.one (.c (.int .i64 (i)))) ∧ h = [.own 0 26 2 (some 1) [diskC d], .own 0 26 2 (some 1) [[.c (.int .i64 (0)), .nl]], .own 0 55 3 cap ((crashTo keep d.files i).map fileC), .own 0 26 2 (some 1) [[.c (.int .i64 (d.room)), .sl 2 0 0 d.files.length]]]) (GC.now ?_) ?_
    · simp only [go_sem, nc_0, true_and]
      rfl
    · rintro i f h J hi hA ⟨e17, rfl⟩ hJ
      simp only [go_sem] at hA
      simp only [go_sem, hA, e17]
      refine c_split (fun hb => ?_) (fun hb => ?_)
      rotate_left
      · simp only [go_sem, hb, hA, e17]
        obtain rfl := ge_len hb hi
        have hcn := crashTo_n keep d.files
        have htk : List.take d.files.length (List.map fileC (d.files.map (crashF keep))) = List.map fileC (d.files.map (crashF keep)) := List.take_of_length_le (by simp)
        have hlm : (d.files.map (crashF keep)).length = d.files.length := by simp
        simp only [hlm] at hk
        (try simp only [go_sem, hA, e17, hcn]); repeat' (first | (with_reducible refine c_split (fun hb => ?_) (fun hb => ?_) <;> try simp only [go_sem, hb, hA, e17, hcn]) | (with_reducible refine w_split (fun hb => ?_) (fun hb => ?_) <;> try simp only [go_sem, hb, hA, e17, hcn]) | (with_reducible refine tw_split (fun hb => ?_) (fun hb => ?_) <;> try simp only [go_sem, hb, hA, e17, hcn]) | (with_reducible refine draw_at 0 22 (by with_unfolding_all rfl) [(0, true, true), (1, true, true), (2, true, false), (3, true, false), (4, true, false), (5, true, false), (6, true, false), (7, true, false), (8, true, false), (9, true, false), (10, false, false), (11, false, false), (12, false, false), (13, false, false), (14, false, false), (15, false, false), (16, false, false), (17, false, false), (18, false, true), (19, false, true)] (by kernel_rfl) ?_ <;> try simp only [go_sem, hA, e17, hcn]) | (fail))
        refine hQO [2] _ _ (GC.step (Ghost.cut (l := 2) rfl d.files.length) (GC.now ?_)) <;> simp only [Try.f22, go_sem, List.nodup_cons, List.nodup_nil, List.mem_cons, List.not_mem_nil, or_false, not_false_eq_true, List.idxOf?_cons, List.idxOf?_nil, Option.map_none, hA, e17, hcn, htk]
        exact hk
      have hi := lt_len hb
      have hw := wrap_nat i (by omega)
      have hil : (i : Int) < ((d.files.length : Nat) : Int) := Int.ofNat_lt.2 hi
      have hg0 : (d.files)[i]? = some ((d.files)[i]) := List.getElem?_eq_getElem (by omega)
      simp only [go_sem, hb, hA, e17, hg0]
      try simp only [go_sem, hA, e17, hil, hg0]
      have hk1 := keep_ok keep d.files[i]
      have hk0 := hk1.1
      have hk2 := hk1.2
      have hmm := keep_mm keep d.files[i]
      have hcs := crashTo_s keep d.files i hi
      have hcg := crashTo_get keep d.files i hi
      have hcl := crashTo_len keep d.files i
      have hfs := file_small hz hi
      have hsz : d.files[i].safe.size + (d.files[i].late.extract 0 (keepN keep d.files[i]).toNat).size ≤ 9223372036854775807 := by rw [ByteArray.size_extract]; omega
      (try simp only [go_sem, hA, e17, hil, hg0, hmm, hk0, hk2, hsz, Nat.zero_le, hcl, hcs, hcg, hi]); repeat' (first | (with_reducible refine c_split (fun hb => ?_) (fun hb => ?_) <;> try simp only [go_sem, hb, hA, e17, hil, hg0, hmm, hk0, hk2, hsz, Nat.zero_le, hcl, hcs, hcg, hi]) | (with_reducible refine w_split (fun hb => ?_) (fun hb => ?_) <;> try simp only [go_sem, hb, hA, e17, hil, hg0, hmm, hk0, hk2, hsz, Nat.zero_le, hcl, hcs, hcg, hi]) | (with_reducible refine tw_split (fun hb => ?_) (fun hb => ?_) <;> try simp only [go_sem, hb, hA, e17, hil, hg0, hmm, hk0, hk2, hsz, Nat.zero_le, hcl, hcs, hcg, hi]) | (with_reducible refine draw_at 0 22 (by with_unfolding_all rfl) [(0, true, true), (1, true, true), (2, true, false), (3, true, false), (4, true, false), (5, true, false), (6, true, false), (7, true, false), (8, true, false), (9, true, false), (10, false, false), (11, false, false), (12, false, false), (13, false, false), (14, false, false), (15, false, false), (16, false, false), (17, false, false), (18, false, true), (19, false, true)] (by kernel_rfl) ?_ <;> try simp only [go_sem, hA, e17, hil, hg0, hmm, hk0, hk2, hsz, Nat.zero_le, hcl, hcs, hcg, hi]) | (fail))
      refine gc_trim 4 (by decide) (by simp only [go_sem]) (by simp only [go_sem]) (hJ _ _ hi (by simp only [go_sem, hA, e17]) ⟨?_, ?_⟩) <;> try simp only [go_sem, hA, e17, hw, hcs]
theorem add_make (x n : Nat) (hx : (x : Int) < 2 ∨ x = 0) (hn : 9000 + x = n) : wrap64 (9000 + (x : Int)) = (n : Int) ∧ (0 : Int) ≤ (n : Int) ∧ (n : Int) ≤ 9223372036854775807 ∧ n * 1 ≤ 281474976710656 ∧ 1 * n ≤ 281474976710656 ∧ n ≤ maxLen ∧ n ≤ 100000 := by
  have h1 : wrap64 (9000 + (x : Int)) = (n : Int) := by rw [wrap_id _ (by omega) (by omega)]; omega
  exact ⟨h1, by omega, by omega, by omega, by omega, Nat.le_trans (show n ≤ 100000 by omega) (by decide), by omega⟩
theorem strOf_size (xs : List Int) : (strOf xs).size = xs.length := by simp [strOf, ByteArray.size]
theorem c_l15DrawAdd (b : List UInt8) (hbl : b.length ≤ 1000000000000) (K : AV → AH → Prop) (hk : ∀ (d : Disk) (seg : Int) (s : ByteArray), OkD d → s.size ≤ 100000 → K (.tup [.agg (diskC d), (.one (.c (.int .i64 (seg)))), (.one (.c (.string (s))))]) []) : ACalls Try.prog 42 [(.one (.im (b.map byteC)))] [] K := by
  refine acall_c Try.f42.results.toList mixed Try.func42 rfl rfl (by kernel_rfl) ?_
  intro Q hQ hQO
  simp only [go_sem]
  (try simp only [go_sem]); repeat' (first | (with_reducible refine c_split (fun hb => ?_) (fun hb => ?_) <;> try simp only [go_sem, hb]) | (with_reducible refine w_split (fun hb => ?_) (fun hb => ?_) <;> try simp only [go_sem, hb]) | (with_reducible refine tw_split (fun hb => ?_) (fun hb => ?_) <;> try simp only [go_sem, hb]) | (with_reducible refine draw_at 0 22 (by with_unfolding_all rfl) [(0, true, true), (1, true, false), (3, true, false), (2, false, false), (4, false, true), (5, false, true), (6, false, true)] (by kernel_rfl) ?_ <;> try simp only [go_sem]) | (refine call_c (c_l1New b hbl _ fun h1 => ?_) <;> try simp only [go_sem]) | (fail))
  refine call_f _ (c_l15DrawDisk b 0 h1 hbl (Nat.zero_le _) _ 1 rfl _ fun i2 h2 d hi2 hd => ?_)
  (try simp only [go_sem]); repeat' (first | (with_reducible refine c_split (fun hb => ?_) (fun hb => ?_) <;> try simp only [go_sem, hb]) | (with_reducible refine w_split (fun hb => ?_) (fun hb => ?_) <;> try simp only [go_sem, hb]) | (with_reducible refine tw_split (fun hb => ?_) (fun hb => ?_) <;> try simp only [go_sem, hb]) | (with_reducible refine draw_at 0 22 (by with_unfolding_all rfl) [(0, true, true), (1, true, false), (3, true, false), (2, false, false), (4, false, true), (5, false, true), (6, false, true)] (by kernel_rfl) ?_ <;> try simp only [go_sem]) | (fail))
  refine call_f _ (c_l14DrawText b i2 h2 8 (by decide) hbl hi2 _ 1 rfl _ fun i3 h3 s hi3 hs => ?_)
  (try simp only [go_sem]); repeat' (first | (with_reducible refine c_split (fun hb => ?_) (fun hb => ?_) <;> try simp only [go_sem, hb]) | (with_reducible refine w_split (fun hb => ?_) (fun hb => ?_) <;> try simp only [go_sem, hb]) | (with_reducible refine tw_split (fun hb => ?_) (fun hb => ?_) <;> try simp only [go_sem, hb]) | (with_reducible refine draw_at 0 22 (by with_unfolding_all rfl) [(0, true, true), (1, true, false), (3, true, false), (2, false, false), (4, false, true), (5, false, true), (6, false, true)] (by kernel_rfl) ?_ <;> try simp only [go_sem]) | (fail))
  refine call_f _ (c_l1Once b i3 h3 _ hbl hi3 _ 1 rfl _ fun i4 h4 v hi4 => ?_)
  cases v
  · (try simp only [go_sem]); repeat' (first | (with_reducible refine c_split (fun hb => ?_) (fun hb => ?_) <;> try simp only [go_sem, hb]) | (with_reducible refine w_split (fun hb => ?_) (fun hb => ?_) <;> try simp only [go_sem, hb]) | (with_reducible refine tw_split (fun hb => ?_) (fun hb => ?_) <;> try simp only [go_sem, hb]) | (with_reducible refine draw_at 0 22 (by with_unfolding_all rfl) [(0, true, true), (1, true, false), (3, true, false), (2, false, false), (4, false, true), (5, false, true), (6, false, true)] (by kernel_rfl) ?_ <;> try simp only [go_sem]) | (fail))
    refine call_f _ (c_l15DrawSeg b i4 h4 hbl hi4 _ 1 rfl _ fun i5 h5 seg hi5 => ?_)
    (try simp only [go_sem]); repeat' (first | (with_reducible refine c_split (fun hb => ?_) (fun hb => ?_) <;> try simp only [go_sem, hb]) | (with_reducible refine w_split (fun hb => ?_) (fun hb => ?_) <;> try simp only [go_sem, hb]) | (with_reducible refine tw_split (fun hb => ?_) (fun hb => ?_) <;> try simp only [go_sem, hb]) | (with_reducible refine draw_at 0 22 (by with_unfolding_all rfl) [(0, true, true), (1, true, false), (3, true, false), (2, false, false), (4, false, true), (5, false, true), (6, false, true)] (by kernel_rfl) ?_ <;> try simp only [go_sem]) | (with_reducible refine hQ _ _ ?_ <;> simp only [Try.f42, go_sem]))
    exact hk d seg s hd (by omega)
  · (try simp only [go_sem]); repeat' (first | (with_reducible refine c_split (fun hb => ?_) (fun hb => ?_) <;> try simp only [go_sem, hb]) | (with_reducible refine w_split (fun hb => ?_) (fun hb => ?_) <;> try simp only [go_sem, hb]) | (with_reducible refine tw_split (fun hb => ?_) (fun hb => ?_) <;> try simp only [go_sem, hb]) | (with_reducible refine draw_at 0 22 (by with_unfolding_all rfl) [(0, true, true), (1, true, false), (3, true, false), (2, false, false), (4, false, true), (5, false, true), (6, false, true)] (by kernel_rfl) ?_ <;> try simp only [go_sem]) | (fail))
    refine call_f _ (c_l1Below b i4 h4 _ hbl hi4 _ 1 rfl _ fun i6 h6 x6 hi6 hx6 => ?_)
    obtain ⟨hw2, q4, q5, q6, q7, q8, q9⟩ := add_make x6 (9000 + x6) hx6 rfl
    generalize 9000 + x6 = n at hw2 q4 q5 q6 q7 q8 q9
    (try simp only [go_sem, hw2, srB_i, q4, q5, q6]); repeat' (first | (with_reducible refine c_split (fun hb => ?_) (fun hb => ?_) <;> try simp only [go_sem, hb, hw2, srB_i, q4, q5, q6]) | (with_reducible refine w_split (fun hb => ?_) (fun hb => ?_) <;> try simp only [go_sem, hb, hw2, srB_i, q4, q5, q6]) | (with_reducible refine tw_split (fun hb => ?_) (fun hb => ?_) <;> try simp only [go_sem, hb, hw2, srB_i, q4, q5, q6]) | (with_reducible refine draw_at 0 22 (by with_unfolding_all rfl) [(0, true, true), (1, true, false), (3, true, false), (2, false, false), (4, false, true), (5, false, true), (6, false, true)] (by kernel_rfl) ?_ <;> try simp only [go_sem, hw2, srB_i, q4, q5, q6]) | (fail))
    refine ⟨q7, q8, ?_⟩
    have hrep : List.replicate n ([.c (.int .u8 (0))] : List CV) = (List.replicate n (0 : UInt8)).map byteC := by rw [List.map_replicate]; rfl
    have hln : (List.replicate n (0 : UInt8)).length = n := by simp
    have htk : List.take n ((List.replicate n (0 : UInt8)).map byteC) = (List.replicate n (0 : UInt8)).map byteC := List.take_of_length_le (by simp)
    have hnn : n ≤ n := Nat.le_refl n
    (try simp only [go_sem, hrep, hln, htk, hnn, if_true]); repeat' (first | (with_reducible refine c_split (fun hb => ?_) (fun hb => ?_) <;> try simp only [go_sem, hb, hrep, hln, htk, hnn, if_true]) | (with_reducible refine w_split (fun hb => ?_) (fun hb => ?_) <;> try simp only [go_sem, hb, hrep, hln, htk, hnn, if_true]) | (with_reducible refine tw_split (fun hb => ?_) (fun hb => ?_) <;> try simp only [go_sem, hb, hrep, hln, htk, hnn, if_true]) | (with_reducible refine draw_at 0 22 (by with_unfolding_all rfl) [(0, true, true), (1, true, false), (3, true, false), (2, false, false), (4, false, true), (5, false, true), (6, false, true)] (by kernel_rfl) ?_ <;> try simp only [go_sem, hrep, hln, htk, hnn, if_true]) | (fail))
    refine call_f _ (c_l15DrawSeg b i6 h6 hbl hi6 _ 1 rfl _ fun i5 h5 seg hi5 => ?_)
    (try simp only [go_sem]); repeat' (first | (with_reducible refine c_split (fun hb => ?_) (fun hb => ?_) <;> try simp only [go_sem, hb]) | (with_reducible refine w_split (fun hb => ?_) (fun hb => ?_) <;> try simp only [go_sem, hb]) | (with_reducible refine tw_split (fun hb => ?_) (fun hb => ?_) <;> try simp only [go_sem, hb]) | (with_reducible refine draw_at 0 22 (by with_unfolding_all rfl) [(0, true, true), (1, true, false), (3, true, false), (2, false, false), (4, false, true), (5, false, true), (6, false, true)] (by kernel_rfl) ?_ <;> try simp only [go_sem]) | (with_reducible refine hQ _ _ ?_ <;> simp only [Try.f42, go_sem]))
    exact hk ⟨60000, d.files⟩ seg _ hd (Nat.le_trans (Nat.le_of_eq ((strOf_size _).trans (by rw [List.length_map, hln]))) q9)
theorem c_DrawSegAdd (b : List UInt8) (hbl : b.length ≤ 1000000000000) (K : AV → AH → Prop) (hk : ∀ (d : Disk) (seg : Int) (s : ByteArray), OkD d → s.size ≤ 100000 → K (.tup [.agg (diskC d), (.one (.c (.int .i64 (seg)))), (.one (.c (.string (s))))]) []) : ACalls Try.prog 15 [(.one (.im (b.map byteC)))] [] K := by
  refine acall_c Try.f15.results.toList mixed Try.func15 rfl rfl (by kernel_rfl) ?_
  intro Q hQ hQO
  simp only [go_sem]
  (try simp only [go_sem]); repeat' (first | (with_reducible refine c_split (fun hb => ?_) (fun hb => ?_) <;> try simp only [go_sem, hb]) | (with_reducible refine w_split (fun hb => ?_) (fun hb => ?_) <;> try simp only [go_sem, hb]) | (refine call_c (c_l15DrawAdd b hbl _ fun d seg s hd hs => ?_) <;> try simp only [go_sem]) | (fail))
  (try simp only [go_sem]); repeat' (first | (with_reducible refine c_split (fun hb => ?_) (fun hb => ?_) <;> try simp only [go_sem, hb]) | (with_reducible refine w_split (fun hb => ?_) (fun hb => ?_) <;> try simp only [go_sem, hb]) | (with_reducible refine hQ _ _ ?_ <;> simp only [Try.f15, go_sem]))
  exact hk d seg s hd hs
end Go.Proofs.Ytaahlnjldenhpaa
