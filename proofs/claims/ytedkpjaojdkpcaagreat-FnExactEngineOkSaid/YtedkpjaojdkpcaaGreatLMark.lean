/- Mark: what the laws' own functions over disks compute: copies, sizes, comparisons, marks. Conditions: none. -/
import Derived.Test.YtedkpjaojdkpcaaGreatLG
import Derived.Test.YtedkpjaojdkpcaaGreatLT
import Derived.Test.YtedkpjaojdkpcaaGreatLSegs
namespace Go.Proofs.YtedkpjaojdkpcaaGreat
open Go.BL Go.RowKit
set_option linter.unusedVariables false
set_option linter.unusedSimpArgs false
set_option maxRecDepth 100000
attribute [local go_sem] fileC diskC fileC_len
/-- The digits of a number, in front of what stands. -/
def digitsOf : Nat → Int → ByteArray → ByteArray
  | 0, _, out => out
  | n + 1, cur, out => if 0 < cur then digitsOf n (cur / 10) (strOf [IntKind.wrap .u8 (wrap64 (48 + cur.tmod 10))] ++ out) else out
def markS (k : Int) : ByteArray := if k ≤ 0 then ⟨#[109, 48]⟩ else ⟨#[109]⟩ ++ digitsOf (k.toNat + 1) k ⟨#[]⟩
theorem c_toFile (f : File) (K : AV → AH → Prop) (hk : K (.agg (fileC f)) []) : ACalls Tryz.prog 115 [.agg (fileC f)] [] K := by
  refine acall_c Tryz.f115.results.toList mixed Tryz.func115 rfl rfl (by kernel_rfl) ?_
  intro Q hQ hQO
  simp only [go_sem]
  (try simp only [go_sem]); repeat' (first | (with_reducible refine c_split (fun hb => ?_) (fun hb => ?_) <;> try simp only [go_sem, hb]) | (with_reducible refine w_split (fun hb => ?_) (fun hb => ?_) <;> try simp only [go_sem, hb]) | (with_reducible refine hQ _ _ ?_ <;> simp only [Tryz.f115, go_sem]))
  exact hk
theorem c_toFileS (xs : List File) (hn : xs.length ≤ 1000000000) (K : AV → AH → Prop) (hk : K (.one (.sl 0 0 0 xs.length)) [.own 0 73 3 (some xs.length) (xs.map fileC)]) : ACalls Tryz.prog 72 [(.one (.im (xs.map fileC)))] [] K := by
  refine acall_c Tryz.f72.results.toList mixed Tryz.func72 rfl rfl (by kernel_rfl) ?_
  intro Q hQ hQO
  simp only [go_sem]
  refine ⟨by omega, Nat.le_trans hn (by decide), ?_⟩
  refine for_at (xs.length) [0, 3] (fun i f h => f 4 = (.one (.c (.int .i64 (i)))) ∧ h = [.own 0 73 3 (some xs.length) ((fillR (fun j => xs[j]?.getD ⟨0, ⟨#[]⟩, ⟨#[]⟩⟩) (List.replicate xs.length ⟨0, ⟨#[]⟩, ⟨#[]⟩⟩) i).map fileC)]) (GC.now ?_) ?_
  · simp only [go_sem, nc_0, true_and, fill_0]
  · rintro i f h J hi hA ⟨e4, rfl⟩ hJ
    simp only [go_sem, fill_0] at hA
    simp only [go_sem, hA, e4, fill_0]
    refine c_split (fun hb => ?_) (fun hb => ?_)
    rotate_left
    · simp only [go_sem, hb, hA, e4, fill_0]
      obtain rfl := ge_len hb hi
      (try simp only [go_sem, hA, e4, fill_0, fill_copy xs _ _ List.length_replicate]); repeat' (first | (with_reducible refine c_split (fun hb => ?_) (fun hb => ?_) <;> try simp only [go_sem, hb, hA, e4, fill_0, fill_copy xs _ _ List.length_replicate]) | (with_reducible refine w_split (fun hb => ?_) (fun hb => ?_) <;> try simp only [go_sem, hb, hA, e4, fill_0, fill_copy xs _ _ List.length_replicate]) | (fail))
      refine hQO [0] _ _ (GC.now ?_) <;> simp only [Tryz.f72, go_sem, List.nodup_cons, List.nodup_nil, List.mem_cons, List.not_mem_nil, or_false, not_false_eq_true, List.idxOf?_cons, List.idxOf?_nil, Option.map_none]
      exact hk
    have hi := lt_len hb
    have hw := wrap_nat i (by omega)
    have hil : (i : Int) < ((xs.length : Nat) : Int) := Int.ofNat_lt.2 hi
    have hg0 : (xs)[i]? = some ((xs)[i]) := List.getElem?_eq_getElem (by omega)
    simp only [go_sem, hb, hA, e4, fill_0, hg0]
    try simp only [go_sem, hA, e4, fill_0, hil, hg0]
    have hold := fill_get (fun j => xs[j]?.getD (⟨0, ⟨#[]⟩, ⟨#[]⟩⟩ : File)) (List.replicate xs.length ⟨0, ⟨#[]⟩, ⟨#[]⟩⟩) i
    rw [List.getElem?_replicate, if_pos hi] at hold
    have hset := fill_set (fun j => xs[j]?.getD (⟨0, ⟨#[]⟩, ⟨#[]⟩⟩ : File)) (List.replicate xs.length ⟨0, ⟨#[]⟩, ⟨#[]⟩⟩) i (by simpa using hi) xs[i] (by rw [hg0]; rfl)
    (try simp only [go_sem, hA, e4, fill_0, hil, hg0, hold]); repeat' (first | (with_reducible refine c_split (fun hb => ?_) (fun hb => ?_) <;> try simp only [go_sem, hb, hA, e4, fill_0, hil, hg0, hold]) | (with_reducible refine w_split (fun hb => ?_) (fun hb => ?_) <;> try simp only [go_sem, hb, hA, e4, fill_0, hil, hg0, hold]) | (refine call_c (c_toFile _ _ ?_) <;> try simp only [go_sem, hA, e4, fill_0, hil, hg0, hold]) | (fail))
    refine gc_trim 1 (by decide) (by simp only [go_sem]) (by simp only [go_sem]) (hJ _ _ hi (by simp only [go_sem, hA, e4, fill_0]) ⟨?_, ?_⟩) <;> try simp only [go_sem, hA, e4, fill_0, hw, hset]
theorem c_toDisk (d : Disk) (hn : d.files.length ≤ 1000000000) (K : AV → AH → Prop) (hk : K (.agg [.c (.int .i64 (d.room)), .sl 0 0 0 d.files.length]) [.own 0 73 3 (some d.files.length) (d.files.map fileC)]) : ACalls Tryz.prog 31 [.agg (diskC d)] [] K := by
  refine acall_c Tryz.f31.results.toList mixed Tryz.func31 rfl rfl (by kernel_rfl) ?_
  intro Q hQ hQO
  simp only [go_sem]
  (try simp only [go_sem]); repeat' (first | (with_reducible refine c_split (fun hb => ?_) (fun hb => ?_) <;> try simp only [go_sem, hb]) | (with_reducible refine w_split (fun hb => ?_) (fun hb => ?_) <;> try simp only [go_sem, hb]) | (refine call_c (c_toFileS d.files hn _ ?_) <;> try simp only [go_sem]) | (fail))
  refine hQO [3] _ _ (GC.now ?_) <;> simp only [Tryz.f31, go_sem, List.nodup_cons, List.nodup_nil, List.mem_cons, List.not_mem_nil, or_false, not_false_eq_true, List.idxOf?_cons, List.idxOf?_nil, Option.map_none]
  exact hk
/-! ### Sizes -/
theorem c_szFile (f : File) (left : Int) (hb : f.safe.size ≤ 1000000000000000) (hc : f.late.size ≤ 1000000000000000) (h0 : 0 ≤ left) (h1 : left ≤ 1048576) (K : AV → AH → Prop) (hk : ∀ r, (0 ≤ r → r = left - ((f.safe.size : Int) + f.late.size)) → K (.one (.c (.int .i64 (r)))) []) : ACalls Tryz.prog 104 [.agg (fileC f), (.one (.c (.int .i64 (left))))] [] K := by
  refine acall_c Tryz.f104.results.toList mixed Tryz.func104 rfl rfl (by kernel_rfl) ?_
  intro Q hQ hQO
  simp only [go_sem]
  (try simp only [go_sem]); repeat' (first | (with_reducible refine c_split (fun hb => ?_) (fun hb => ?_) <;> try simp only [go_sem, hb]) | (with_reducible refine w_split (fun hb => ?_) (fun hb => ?_) <;> try simp only [go_sem, hb]) | (with_reducible refine hQ _ _ ?_ <;> simp only [Tryz.f104, go_sem]))
  · exact hk _ (by intro q; omega)
  · exact hk _ (by intro q; omega)
  · refine hk _ ?_
    intro q
    have q1 : ¬ wrap64 (wrap64 (left - (f.safe.size : Int)) - (f.late.size : Int)) < 0 := of_decide_eq_false (by assumption)
    have q2 : ¬ wrap64 (left - (f.safe.size : Int)) < 0 := of_decide_eq_false (by assumption)
    unfold wrap64 at *
    omega
def SizedF (fs : List File) : Prop := ∀ f ∈ fs, f.safe.size ≤ 1000000000000000 ∧ f.late.size ≤ 1000000000000000
theorem roomTo_nonneg (fs : List File) : ∀ i, 0 ≤ roomTo fs i
  | 0 => by simp [roomTo]
  | i + 1 => by
    have := roomTo_nonneg fs i
    rw [roomTo]
    split
    · rename_i f _
      exact Int.add_nonneg this (Int.add_nonneg (Int.natCast_nonneg _) (Int.natCast_nonneg _))
    · omega
theorem c_szFileS (fs : List File) (left : Int) (hz : SizedF fs) (hn : fs.length ≤ 1000000000000000) (h0 : 0 ≤ left) (h1 : left ≤ 1048576) (K : AV → AH → Prop) (hk : ∀ r, (0 ≤ r → r = left - (fs.length + roomTo fs fs.length)) → K (.one (.c (.int .i64 (r)))) []) : ACalls Tryz.prog 60 [(.one (.im (fs.map fileC))), (.one (.c (.int .i64 (left))))] [] K := by
  refine acall_c Tryz.f60.results.toList mixed Tryz.func60 rfl rfl (by kernel_rfl) ?_
  intro Q hQ hQO
  simp only [go_sem]
  refine c_split (fun hb => ?_) (fun hb => ?_) <;> simp only [go_sem, hb]
  · (try simp only [go_sem]); repeat' (first | (with_reducible refine c_split (fun hb => ?_) (fun hb => ?_) <;> try simp only [go_sem, hb]) | (with_reducible refine w_split (fun hb => ?_) (fun hb => ?_) <;> try simp only [go_sem, hb]) | (with_reducible refine hQ _ _ ?_ <;> simp only [Tryz.f60, go_sem]))
    exact hk _ (by intro q; omega)
  have hw : wrap64 (left - (fs.length : Int)) = left - fs.length := by unfold wrap64; omega
  rw [hw] at hb
  have hb0 := of_decide_eq_false hb
  simp only [hw]
  refine for_at (fs.length) [0] (fun i f h => f 1 = (.one (.c (.int .i64 (left - (fs.length + roomTo fs i))))) ∧ f 5 = (.one (.c (.int .i64 (i)))) ∧ h = [] ∧ 0 ≤ left - (fs.length + roomTo fs i)) (GC.now ?_) ?_
  · simp only [go_sem, nc_0, true_and]
    simp [roomTo]; omega
  · rintro i f h J hi hA ⟨e1, e5, rfl, hP⟩ hJ
    simp only [go_sem] at hA
    simp only [go_sem, hA, e1, e5]
    refine c_split (fun hb => ?_) (fun hb => ?_)
    rotate_left
    · simp only [go_sem, hb, hA, e1, e5]
      obtain rfl := ge_len hb hi
      (try simp only [go_sem, hA, e1, e5]); repeat' (first | (with_reducible refine c_split (fun hb => ?_) (fun hb => ?_) <;> try simp only [go_sem, hb, hA, e1, e5]) | (with_reducible refine w_split (fun hb => ?_) (fun hb => ?_) <;> try simp only [go_sem, hb, hA, e1, e5]) | (with_reducible refine hQ _ _ ?_ <;> simp only [Tryz.f60, go_sem, hA, e1, e5]))
      exact hk _ (fun _ => rfl)
    have hi := lt_len hb
    have hw := wrap_nat i (by omega)
    have hil : (i : Int) < ((fs.length : Nat) : Int) := Int.ofNat_lt.2 hi
    have hg0 : (fs)[i]? = some ((fs)[i]) := List.getElem?_eq_getElem (by omega)
    simp only [go_sem, hb, hA, e1, e5, hg0]
    try simp only [go_sem, hA, e1, e5, hil, hg0]
    have hr0 : 0 ≤ roomTo fs i := roomTo_nonneg fs i
    (try simp only [go_sem, hA, e1, e5, hil, hg0]); repeat' (first | (with_reducible refine c_split (fun hb => ?_) (fun hb => ?_) <;> try simp only [go_sem, hb, hA, e1, e5, hil, hg0]) | (with_reducible refine w_split (fun hb => ?_) (fun hb => ?_) <;> try simp only [go_sem, hb, hA, e1, e5, hil, hg0]) | (refine call_c (c_szFile _ _ (hz _ (List.getElem_mem hi)).1 (hz _ (List.getElem_mem hi)).2 hP (by omega) _ (fun r hr => ?_)) <;> try simp only [go_sem, hA, e1, e5, hil, hg0]) | (with_reducible refine hQ _ _ ?_ <;> simp only [Tryz.f60, go_sem, hA, e1, e5, hil, hg0]))
    · exact hk _ (by intro q; omega)
    · rename_i r hr
      have hb1 := of_decide_eq_false hb
      have hr1 := hr (by omega)
      have hr2 : r = left - (fs.length + roomTo fs (i + 1)) := by rw [hr1, roomTo_succ fs i hi]; omega
      refine GC.now (hJ _ _ hi (by simp only [go_sem, hA, e1, e5]) ⟨?_, ?_, ?_, ?_⟩) <;> try simp only [go_sem, hA, e1, e5, hw, ← hr2]
      omega
theorem c_szDisk (d : Disk) (left : Int) (hz : SizedF d.files) (hn : d.files.length ≤ 1000000000000000) (h0 : 0 ≤ left) (h1 : left ≤ 1048576) (K : AV → AH → Prop) (hk : ∀ r, (0 ≤ r → r = left - (d.files.length + roomTo d.files d.files.length)) → K (.one (.c (.int .i64 (r)))) []) : ACalls Tryz.prog 26 [.agg (diskC d), (.one (.c (.int .i64 (left))))] [] K := by
  refine acall_c Tryz.f26.results.toList mixed Tryz.func26 rfl rfl (by kernel_rfl) ?_
  intro Q hQ hQO
  simp only [go_sem]
  (try simp only [go_sem]); repeat' (first | (with_reducible refine c_split (fun hb => ?_) (fun hb => ?_) <;> try simp only [go_sem, hb]) | (with_reducible refine w_split (fun hb => ?_) (fun hb => ?_) <;> try simp only [go_sem, hb]) | (refine call_c (c_szFileS _ _ hz hn h0 h1 _ (fun r hr => ?_)) <;> try simp only [go_sem]) | (with_reducible refine hQ _ _ ?_ <;> simp only [Tryz.f26, go_sem]))
  · exact hk _ (by intro q; omega)
  · exact hk _ hr
/-! ### Comparisons of like things -/
theorem c_eqFile (f : File) (K : AV → AH → Prop) (hk : K (.one (.c (.bool (true)))) []) : ACalls Tryz.prog 131 [.agg (fileC f), .agg (fileC f)] [] K := by
  refine acall_c Tryz.f131.results.toList mixed Tryz.func131 rfl rfl (by kernel_rfl) ?_
  intro Q hQ hQO
  simp only [go_sem, BEq.rfl]
  (try simp only [go_sem, BEq.rfl]); repeat' (first | (with_reducible refine c_split (fun hb => ?_) (fun hb => ?_) <;> try simp only [go_sem, hb, BEq.rfl]) | (with_reducible refine w_split (fun hb => ?_) (fun hb => ?_) <;> try simp only [go_sem, hb, BEq.rfl]) | (with_reducible refine hQ _ _ ?_ <;> simp only [Tryz.f131, go_sem, BEq.rfl]))
  exact hk
theorem c_eqFileS (fs : List File) (hn : fs.length ≤ 1000000000) (K : AV → AH → Prop) (hk : K (.one (.c (.bool (true)))) []) : ACalls Tryz.prog 89 [(.one (.im (fs.map fileC))), (.one (.im (fs.map fileC)))] [] K := by
  refine acall_c Tryz.f89.results.toList mixed Tryz.func89 rfl rfl (by kernel_rfl) ?_
  intro Q hQ hQO
  simp only [go_sem, BEq.rfl]
  refine for_at (fs.length) [0, 1] (fun i f h => f 5 = (.one (.c (.int .i64 (i)))) ∧ h = []) (GC.now ?_) ?_
  · simp only [go_sem, nc_0, true_and, BEq.rfl]
  · rintro i f h J hi hA ⟨e5, rfl⟩ hJ
    simp only [go_sem, BEq.rfl] at hA
    simp only [go_sem, hA, e5, BEq.rfl]
    refine c_split (fun hb => ?_) (fun hb => ?_)
    rotate_left
    · simp only [go_sem, hb, hA, e5, BEq.rfl]
      obtain rfl := ge_len hb hi
      (try simp only [go_sem, hA, e5, BEq.rfl]); repeat' (first | (with_reducible refine c_split (fun hb => ?_) (fun hb => ?_) <;> try simp only [go_sem, hb, hA, e5, BEq.rfl]) | (with_reducible refine w_split (fun hb => ?_) (fun hb => ?_) <;> try simp only [go_sem, hb, hA, e5, BEq.rfl]) | (with_reducible refine tw_split (fun hb => ?_) (fun hb => ?_) <;> try simp only [go_sem, hb, hA, e5, BEq.rfl]) | (with_reducible refine draw_at 0 17 (by with_unfolding_all rfl) [(0, true, true), (1, true, true), (2, true, true), (3, true, true), (4, true, false), (5, false, false), (6, false, false), (7, false, false), (8, false, true), (9, false, true)] (by kernel_rfl) ?_ <;> try simp only [go_sem, hA, e5, BEq.rfl]) | (with_reducible refine hQ _ _ ?_ <;> simp only [Tryz.f89, go_sem, hA, e5, BEq.rfl]))
      exact hk
    have hi := lt_len hb
    have hw := wrap_nat i (by omega)
    have hil : (i : Int) < ((fs.length : Nat) : Int) := Int.ofNat_lt.2 hi
    have hg0 : (fs)[i]? = some ((fs)[i]) := List.getElem?_eq_getElem (by omega)
    simp only [go_sem, hb, hA, e5, BEq.rfl, hg0]
    try simp only [go_sem, hA, e5, BEq.rfl, hil, hg0]
    (try simp only [go_sem, hA, e5, BEq.rfl, hil, hg0]); repeat' (first | (with_reducible refine c_split (fun hb => ?_) (fun hb => ?_) <;> try simp only [go_sem, hb, hA, e5, BEq.rfl, hil, hg0]) | (with_reducible refine w_split (fun hb => ?_) (fun hb => ?_) <;> try simp only [go_sem, hb, hA, e5, BEq.rfl, hil, hg0]) | (with_reducible refine tw_split (fun hb => ?_) (fun hb => ?_) <;> try simp only [go_sem, hb, hA, e5, BEq.rfl, hil, hg0]) | (with_reducible refine draw_at 0 17 (by with_unfolding_all rfl) [(0, true, true), (1, true, true), (2, true, true), (3, true, true), (4, true, false), (5, false, false), (6, false, false), (7, false, false), (8, false, true), (9, false, true)] (by kernel_rfl) ?_ <;> try simp only [go_sem, hA, e5, BEq.rfl, hil, hg0]) | (refine call_c (c_eqFile _ _ ?_) <;> try simp only [go_sem, hA, e5, BEq.rfl, hil, hg0]) | (fail))
    refine GC.now (hJ _ _ hi (by simp only [go_sem, hA, e5, BEq.rfl]) ⟨?_, ?_⟩) <;> try simp only [go_sem, hA, e5, BEq.rfl, hw]
theorem c_eqDisk (d : Disk) (hn : d.files.length ≤ 1000000000) (K : AV → AH → Prop) (hk : K (.one (.c (.bool (true)))) []) : ACalls Tryz.prog 38 [.agg (diskC d), .agg (diskC d)] [] K := by
  refine acall_c Tryz.f38.results.toList mixed Tryz.func38 rfl rfl (by kernel_rfl) ?_
  intro Q hQ hQO
  simp only [go_sem, BEq.rfl]
  (try simp only [go_sem, BEq.rfl]); repeat' (first | (with_reducible refine c_split (fun hb => ?_) (fun hb => ?_) <;> try simp only [go_sem, hb, BEq.rfl]) | (with_reducible refine w_split (fun hb => ?_) (fun hb => ?_) <;> try simp only [go_sem, hb, BEq.rfl]) | (refine call_c (c_eqFileS _ hn _ ?_) <;> try simp only [go_sem, BEq.rfl]) | (with_reducible refine hQ _ _ ?_ <;> simp only [Tryz.f38, go_sem, BEq.rfl]))
  exact hk
/-! ### Marks -/
def markF (k : Int) (i : Nat) : File := ⟨k + 3 * i, markS (k + 3 * i + 1), markS (k + 3 * i + 2)⟩
def marksF (k : Int) (n : Nat) : List File := (List.range n).map (markF k)
theorem marksF_len (k : Int) (n : Nat) : (marksF k n).length = n := by simp [marksF]
theorem marksF_tk (k : Int) (n : Nat) : ((marksF k n).map fileC).take n = (marksF k n).map fileC := List.take_of_length_le (by simp [marksF])
end Go.Proofs.YtedkpjaojdkpcaaGreat
