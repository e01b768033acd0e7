/- Walks of functions of the program and the laws they rest on (3 of 5). Conditions: none. -/
import Derived.Test.YtlefjpbhbiajfaaGreatM2
section
namespace Go.Proofs.YtlefjpbhbiajfaaGreat
open Go.BL Go.RowKit
set_option linter.unusedVariables false
set_option linter.unusedSimpArgs false
set_option maxRecDepth 100000
theorem d69_0_LMark : DrawL Tryz.prog 0 17 (.on [(0, true, true), (1, true, true), (2, true, true), (3, true, true), (4, true, false), (5, false, false), (6, false, false), (7, false, false), (8, false, true), (9, false, true)] .nil) := draw_L
theorem d89_0_LMark : DrawL Tryz.prog 0 21 (.on [(0, true, true), (1, true, true), (2, true, true), (3, true, true), (4, true, true), (5, false, false), (6, false, false), (7, false, true)] .nil) := draw_L
theorem d89_1_LMark : DrawL Tryz.prog 0 31 (.on [(0, true, true), (1, true, true), (2, true, true), (3, true, true), (4, true, true), (5, false, false), (6, false, false), (7, false, true)] .nil) := draw_L
attribute [local go_sem] fileC diskC fileC_len
def digitsOf : Nat → Int → ByteArray → ByteArray
  | 0, _, out => out
  | n + 1, cur, out => if 0 < cur then digitsOf n (cur / 10) (strOf [IntKind.wrap .u8 (wrap64 (48 + cur.tmod 10))] ++ out) else out
def markS (k : Int) : ByteArray := if k ≤ 0 then ⟨#[109, 48]⟩ else ⟨#[109]⟩ ++ digitsOf (k.toNat + 1) k ⟨#[]⟩
theorem c_markText (k : Int) (K : AV → AH → Prop) (hk1 : k ≤ 4000000000) (hk : K (.one (.c (.string (markS k)))) []) : ACalls Tryz.prog 155 [(.one (.c (.int .i64 (k))))] [] K := by
  have h10 : (10 : Int) ≠ 0 := by omega
  refine acall_c Tryz.f155.results.toList mixed Tryz.func155 rfl rfl (by kernel_rfl) ?_
  intro Q hQ hQO
  simp only [go_sem]
  refine c_split (fun hb => ?_) (fun hb => ?_) <;> simp only [go_sem, hb]
  · (try simp only [go_sem]); repeat' (first | (with_reducible first | refine c_split ?_ ?_ | refine w_split ?_ ?_) <;> intro hb <;> try simp only [go_sem, hb] | with_reducible refine hQ _ _ ?_ <;> simp only [Tryz.f155, go_sem])
    rw [markS, if_pos (of_decide_eq_true hb)] at hk
    exact hk
  have hk0 := of_decide_eq_false hb
  rw [markS, if_neg hk0] at hk
  refine while_at (α := Int × ByteArray × Nat) (fun ⟨cur, out, n⟩ => cur.toNat) [] (fun ⟨cur, out, n⟩ f h => f 0 = (.one (.c (.int .i64 (cur)))) ∧ f 3 = (.one (.c (.string (out)))) ∧ h = [] ∧ 0 ≤ cur ∧ cur.toNat < n ∧ (out.size : Int) + cur ≤ k ∧ digitsOf (k.toNat + 1) k ⟨#[]⟩ = digitsOf n cur out) (k, ⟨#[]⟩, k.toNat + 1) (GC.now ?_) ?_
  · simp only [go_sem, nc_0, true_and]
    simp; omega
  · rintro ⟨cur, out, n⟩ f h J hA ⟨e0, e3, rfl, hP⟩ hJ
    simp only [go_sem] at hA
    try dsimp only at hJ
    simp only [go_sem, hA, e0, e3]
    obtain ⟨hc0, hn, hsz, hdg⟩ := hP
    obtain ⟨n, rfl⟩ : ∃ q, n = q + 1 := ⟨n - 1, by omega⟩
    refine c_split (fun hb => ?_) (fun hb => ?_) <;> simp only [go_sem, hb, hA, e0, e3]
    · have hp := of_decide_eq_true hb
      have hd : cur.tdiv 10 = cur / 10 := Int.tdiv_eq_ediv_of_nonneg hc0
      have hw : wrap64 (cur / 10) = cur / 10 := by unfold wrap64; omega
      have hs1 : (strOf [IntKind.wrap .u8 (wrap64 (48 + cur.tmod 10))]).size + out.size ≤ 9223372036854775807 := by
        rw [strOf_size]; simp; omega
      (try simp only [go_sem, hA, e0, e3, ne_eq, h10, not_false_eq_true, b_rem, b_quo, hs1]); repeat' (first | (with_reducible first | refine c_split ?_ ?_ | refine w_split ?_ ?_) <;> intro hb <;> try simp only [go_sem, hb, hA, e0, e3, ne_eq, h10, not_false_eq_true, b_rem, b_quo, hs1] | fail)
      refine gc_trim 0 (by decide) (by simp only [go_sem]) (by simp only [go_sem, hd, hw]) (hJ (cur / 10, strOf [IntKind.wrap .u8 (wrap64 (48 + cur.tmod 10))] ++ out, n) _ _ (by dsimp only; omega) (by simp only [go_sem, hA, e0, e3]) ⟨?_, ?_, ?_, ?_⟩) <;> try simp only [go_sem, hA, e0, e3, hd, hw]
      refine ⟨by omega, by omega, ?_, ?_⟩
      · rw [strOf_size]; simp; omega
      · rw [hdg, digitsOf, if_pos hp]
    · have hs2 : (ByteArray.mk #[109]).size + out.size ≤ 9223372036854775807 := by
        show 1 + out.size ≤ _
        omega
      rw [b_sadd (hs := hs2)]
      simp only [go_sem]
      (try simp only [go_sem]); repeat' (first | (with_reducible first | refine c_split ?_ ?_ | refine w_split ?_ ?_) <;> intro hb <;> try simp only [go_sem, hb] | with_reducible refine hQ _ _ ?_ <;> simp only [Tryz.f155, go_sem])
      rw [hdg, digitsOf, if_neg (of_decide_eq_false hb)] at hk
      exact hk
/-! ### Copies -/
theorem c_toFile (f : File) (K : AV → AH → Prop) (hk : K (.agg (fileC f)) []) : ACalls Tryz.prog 142 [.agg (fileC f)] [] K := by
  refine acall_c Tryz.f142.results.toList mixed Tryz.func142 rfl rfl (by kernel_rfl) ?_
  intro Q hQ hQO
  simp only [go_sem]
  (try simp only [go_sem]); repeat' (first | (with_reducible first | refine c_split ?_ ?_ | refine w_split ?_ ?_) <;> intro hb <;> try simp only [go_sem, hb] | with_reducible refine hQ _ _ ?_ <;> simp only [Tryz.f142, go_sem])
  exact hk
theorem c_toFileS (xs : List File) (hn : xs.length ≤ 1000000000) (K : AV → AH → Prop) (hk : K (.one (.sl 0 0 0 xs.length)) [.own 0 125 3 (some xs.length) (xs.map fileC)]) : ACalls Tryz.prog 62 [(.one (.im (xs.map fileC)))] [] K := by
  refine acall_c Tryz.f62.results.toList mixed Tryz.func62 rfl rfl (by kernel_rfl) ?_
  intro Q hQ hQO
  simp only [go_sem]
  refine ⟨by omega, Nat.le_trans hn (by decide), ?_⟩
  refine for_at (xs.length) [0, 3] (fun i f h => f 4 = (.one (.c (.int .i64 (i)))) ∧ h = [.own 0 125 3 (some xs.length) ((fillR (fun j => xs[j]?.getD ⟨0, ⟨#[]⟩, ⟨#[]⟩⟩) (List.replicate xs.length ⟨0, ⟨#[]⟩, ⟨#[]⟩⟩) i).map fileC)]) (GC.now ?_) ?_
  · simp only [go_sem, nc_0, true_and, fill_0]
  · rintro i f h J hi hA ⟨e4, rfl⟩ hJ
    simp only [go_sem, fill_0] at hA
    simp only [go_sem, hA, e4, fill_0]
    refine c_split (fun hb => ?_) (fun hb => ?_)
    rotate_left
    · simp only [go_sem, hb, hA, e4, fill_0]
      obtain rfl := ge_len hb hi
      (try simp only [go_sem, hA, e4, fill_0, fill_copy xs _ _ List.length_replicate]); repeat' (first | (with_reducible first | refine c_split ?_ ?_ | refine w_split ?_ ?_) <;> intro hb <;> try simp only [go_sem, hb, hA, e4, fill_0, fill_copy xs _ _ List.length_replicate] | fail)
      refine hQO [0] _ _ (GC.now ?_) <;> simp only [Tryz.f62, go_sem, List.nodup_cons, List.nodup_nil, List.mem_cons, List.not_mem_nil, or_false, not_false_eq_true, List.idxOf?_cons, List.idxOf?_nil, Option.map_none]
      exact hk
    have hi := lt_len hb
    have hw := wrap_nat i (by omega)
    have hil : (i : Int) < ((xs.length : Nat) : Int) := Int.ofNat_lt.2 hi
    have hg0 : (xs)[i]? = some ((xs)[i]) := List.getElem?_eq_getElem (by omega)
    simp only [go_sem, hb, hA, e4, fill_0, hg0]
    try simp only [go_sem, hA, e4, fill_0, hil, hg0]
    have hold := fill_get (fun j => xs[j]?.getD (⟨0, ⟨#[]⟩, ⟨#[]⟩⟩ : File)) (List.replicate xs.length ⟨0, ⟨#[]⟩, ⟨#[]⟩⟩) i
    rw [List.getElem?_replicate, if_pos hi] at hold
    have hset := fill_set (fun j => xs[j]?.getD (⟨0, ⟨#[]⟩, ⟨#[]⟩⟩ : File)) (List.replicate xs.length ⟨0, ⟨#[]⟩, ⟨#[]⟩⟩) i (by simpa using hi) xs[i] (by rw [hg0]; rfl)
    (try simp only [go_sem, hA, e4, fill_0, hil, hg0, hold]); repeat' (first | (with_reducible first | refine c_split ?_ ?_ | refine w_split ?_ ?_) <;> intro hb <;> try simp only [go_sem, hb, hA, e4, fill_0, hil, hg0, hold] | refine call_c (c_toFile _ _ ?_) <;> try simp only [go_sem, hA, e4, fill_0, hil, hg0, hold] | fail)
    refine gc_trim 1 (by decide) (by simp only [go_sem]) (by simp only [go_sem]) (hJ _ _ hi (by simp only [go_sem, hA, e4, fill_0]) ⟨?_, ?_⟩) <;> try simp only [go_sem, hA, e4, fill_0, hw, hset]
theorem c_toDisk (d : Disk) (hn : d.files.length ≤ 1000000000) (K : AV → AH → Prop) (hk : K (.agg [.c (.int .i64 (d.room)), .sl 0 0 0 d.files.length]) [.own 0 125 3 (some d.files.length) (d.files.map fileC)]) : ACalls Tryz.prog 22 [.agg (diskC d)] [] K := by
  refine acall_c Tryz.f22.results.toList mixed Tryz.func22 rfl rfl (by kernel_rfl) ?_
  intro Q hQ hQO
  simp only [go_sem]
  (try simp only [go_sem]); repeat' (first | (with_reducible first | refine c_split ?_ ?_ | refine w_split ?_ ?_) <;> intro hb <;> try simp only [go_sem, hb] | refine call_c (c_toFileS d.files hn _ ?_) <;> try simp only [go_sem] | fail)
  refine hQO [3] _ _ (GC.now ?_) <;> simp only [Tryz.f22, go_sem, List.nodup_cons, List.nodup_nil, List.mem_cons, List.not_mem_nil, or_false, not_false_eq_true, List.idxOf?_cons, List.idxOf?_nil, Option.map_none]
  exact hk
/-! ### Sizes -/
theorem c_szFile (f : File) (left : Int) (hb : f.safe.size ≤ 1000000000000000) (hc : f.late.size ≤ 1000000000000000) (h0 : 0 ≤ left) (h1 : left ≤ 1048576) (K : AV → AH → Prop) (hk : ∀ r, (0 ≤ r → r = left - ((f.safe.size : Int) + f.late.size)) → K (.one (.c (.int .i64 (r)))) []) : ACalls Tryz.prog 139 [.agg (fileC f), (.one (.c (.int .i64 (left))))] [] K := by
  refine acall_c Tryz.f139.results.toList mixed Tryz.func139 rfl rfl (by kernel_rfl) ?_
  intro Q hQ hQO
  simp only [go_sem]
  (try simp only [go_sem]); repeat' (first | (with_reducible first | refine c_split ?_ ?_ | refine w_split ?_ ?_) <;> intro hb <;> try simp only [go_sem, hb] | with_reducible refine hQ _ _ ?_ <;> simp only [Tryz.f139, go_sem])
  · exact hk _ (by intro q; omega)
  · exact hk _ (by intro q; omega)
  · refine hk _ ?_
    intro q
    have q1 : ¬ wrap64 (wrap64 (left - (f.safe.size : Int)) - (f.late.size : Int)) < 0 := of_decide_eq_false (by assumption)
    have q2 : ¬ wrap64 (left - (f.safe.size : Int)) < 0 := of_decide_eq_false (by assumption)
    unfold wrap64 at *
    omega
def SizedF (fs : List File) : Prop := ∀ f ∈ fs, f.safe.size ≤ 1000000000000000 ∧ f.late.size ≤ 1000000000000000
theorem roomTo_nonneg (fs : List File) : ∀ i, 0 ≤ roomTo fs i
  | 0 => by simp [roomTo]
  | i + 1 => by
    have := roomTo_nonneg fs i
    rw [roomTo]
    split
    · rename_i f _
      exact Int.add_nonneg this (Int.add_nonneg (Int.natCast_nonneg _) (Int.natCast_nonneg _))
    · omega
theorem c_szFileS (fs : List File) (left : Int) (hz : SizedF fs) (hn : fs.length ≤ 1000000000000000) (h0 : 0 ≤ left) (h1 : left ≤ 1048576) (K : AV → AH → Prop) (hk : ∀ r, (0 ≤ r → r = left - (fs.length + roomTo fs fs.length)) → K (.one (.c (.int .i64 (r)))) []) : ACalls Tryz.prog 56 [(.one (.im (fs.map fileC))), (.one (.c (.int .i64 (left))))] [] K := by
  refine acall_c Tryz.f56.results.toList mixed Tryz.func56 rfl rfl (by kernel_rfl) ?_
  intro Q hQ hQO
  simp only [go_sem]
  refine c_split (fun hb => ?_) (fun hb => ?_) <;> simp only [go_sem, hb]
  · (try simp only [go_sem]); repeat' (first | (with_reducible first | refine c_split ?_ ?_ | refine w_split ?_ ?_) <;> intro hb <;> try simp only [go_sem, hb] | with_reducible refine hQ _ _ ?_ <;> simp only [Tryz.f56, go_sem])
    exact hk _ (by intro q; omega)
  have hw : wrap64 (left - (fs.length : Int)) = left - fs.length := by unfold wrap64; omega
  rw [hw] at hb
  have hb0 := of_decide_eq_false hb
  simp only [hw]
  refine for_at (fs.length) [0] (fun i f h => f 1 = (.one (.c (.int .i64 (left - (fs.length + roomTo fs i))))) ∧ f 5 = (.one (.c (.int .i64 (i)))) ∧ h = [] ∧ 0 ≤ left - (fs.length + roomTo fs i)) (GC.now ?_) ?_
  · simp only [go_sem, nc_0, true_and]
    simp [roomTo]; omega
  · rintro i f h J hi hA ⟨e1, e5, rfl, hP⟩ hJ
    simp only [go_sem] at hA
    simp only [go_sem, hA, e1, e5]
    refine c_split (fun hb => ?_) (fun hb => ?_)
    rotate_left
    · simp only [go_sem, hb, hA, e1, e5]
      obtain rfl := ge_len hb hi
      (try simp only [go_sem, hA, e1, e5]); repeat' (first | (with_reducible first | refine c_split ?_ ?_ | refine w_split ?_ ?_) <;> intro hb <;> try simp only [go_sem, hb, hA, e1, e5] | with_reducible refine hQ _ _ ?_ <;> simp only [Tryz.f56, go_sem, hA, e1, e5])
      exact hk _ (fun _ => rfl)
    have hi := lt_len hb
    have hw := wrap_nat i (by omega)
    have hil : (i : Int) < ((fs.length : Nat) : Int) := Int.ofNat_lt.2 hi
    have hg0 : (fs)[i]? = some ((fs)[i]) := List.getElem?_eq_getElem (by omega)
    simp only [go_sem, hb, hA, e1, e5, hg0]
    try simp only [go_sem, hA, e1, e5, hil, hg0]
    have hr0 : 0 ≤ roomTo fs i := roomTo_nonneg fs i
    (try simp only [go_sem, hA, e1, e5, hil, hg0]); repeat' (first | (with_reducible first | refine c_split ?_ ?_ | refine w_split ?_ ?_) <;> intro hb <;> try simp only [go_sem, hb, hA, e1, e5, hil, hg0] | refine call_c (c_szFile _ _ (hz _ (List.getElem_mem hi)).1 (hz _ (List.getElem_mem hi)).2 hP (by omega) _ (fun r hr => ?_)) <;> try simp only [go_sem, hA, e1, e5, hil, hg0] | with_reducible refine hQ _ _ ?_ <;> simp only [Tryz.f56, go_sem, hA, e1, e5, hil, hg0])
    · exact hk _ (by intro q; omega)
    · rename_i r hr
      have hb1 := of_decide_eq_false hb
      have hr1 := hr (by omega)
      have hr2 : r = left - (fs.length + roomTo fs (i + 1)) := by rw [hr1, roomTo_succ fs i hi]; omega
      refine GC.now (hJ _ _ hi (by simp only [go_sem, hA, e1, e5]) ⟨?_, ?_, ?_, ?_⟩) <;> try simp only [go_sem, hA, e1, e5, hw, ← hr2]
      omega
theorem c_szDisk (d : Disk) (left : Int) (hz : SizedF d.files) (hn : d.files.length ≤ 1000000000000000) (h0 : 0 ≤ left) (h1 : left ≤ 1048576) (K : AV → AH → Prop) (hk : ∀ r, (0 ≤ r → r = left - (d.files.length + roomTo d.files d.files.length)) → K (.one (.c (.int .i64 (r)))) []) : ACalls Tryz.prog 20 [.agg (diskC d), (.one (.c (.int .i64 (left))))] [] K := by
  refine acall_c Tryz.f20.results.toList mixed Tryz.func20 rfl rfl (by kernel_rfl) ?_
  intro Q hQ hQO
  simp only [go_sem]
  (try simp only [go_sem]); repeat' (first | (with_reducible first | refine c_split ?_ ?_ | refine w_split ?_ ?_) <;> intro hb <;> try simp only [go_sem, hb] | refine call_c (c_szFileS _ _ hz hn h0 h1 _ (fun r hr => ?_)) <;> try simp only [go_sem] | with_reducible refine hQ _ _ ?_ <;> simp only [Tryz.f20, go_sem])
  · exact hk _ (by intro q; omega)
  · exact hk _ hr
/-! ### Comparisons of like things -/
theorem c_eqFile (f : File) (K : AV → AH → Prop) (hk : K (.one (.c (.bool (true)))) []) : ACalls Tryz.prog 154 [.agg (fileC f), .agg (fileC f)] [] K := by
  refine acall_c Tryz.f154.results.toList mixed Tryz.func154 rfl rfl (by kernel_rfl) ?_
  intro Q hQ hQO
  simp only [go_sem, BEq.rfl]
  (try simp only [go_sem, BEq.rfl]); repeat' (first | (with_reducible first | refine c_split ?_ ?_ | refine w_split ?_ ?_) <;> intro hb <;> try simp only [go_sem, hb, BEq.rfl] | with_reducible refine hQ _ _ ?_ <;> simp only [Tryz.f154, go_sem, BEq.rfl])
  exact hk
theorem c_eqFileS (fs : List File) (hn : fs.length ≤ 1000000000) (K : AV → AH → Prop) (hk : K (.one (.c (.bool (true)))) []) : ACalls Tryz.prog 69 [(.one (.im (fs.map fileC))), (.one (.im (fs.map fileC)))] [] K := by
  refine acall_c Tryz.f69.results.toList mixed Tryz.func69 rfl rfl (by kernel_rfl) ?_
  intro Q hQ hQO
  simp only [go_sem, BEq.rfl]
  refine for_at (fs.length) [0, 1] (fun i f h => f 5 = (.one (.c (.int .i64 (i)))) ∧ h = []) (GC.now ?_) ?_
  · simp only [go_sem, nc_0, true_and, BEq.rfl]
  · rintro i f h J hi hA ⟨e5, rfl⟩ hJ
    simp only [go_sem, BEq.rfl] at hA
    simp only [go_sem, hA, e5, BEq.rfl]
    refine c_split (fun hb => ?_) (fun hb => ?_)
    rotate_left
    · simp only [go_sem, hb, hA, e5, BEq.rfl]
      obtain rfl := ge_len hb hi
      (try simp only [go_sem, hA, e5, BEq.rfl]); repeat' (first | (with_reducible first | refine c_split ?_ ?_ | refine w_split ?_ ?_ | refine tw_split ?_ ?_) <;> intro hb <;> try simp only [go_sem, hb, hA, e5, BEq.rfl] | with_reducible refine d69_0_LMark (by with_unfolding_all rfl) (by kernel_rfl) ?_ <;> try simp only [go_sem, hA, e5, BEq.rfl] | with_reducible refine hQ _ _ ?_ <;> simp only [Tryz.f69, go_sem, hA, e5, BEq.rfl])
      exact hk
    have hi := lt_len hb
    have hw := wrap_nat i (by omega)
    have hil : (i : Int) < ((fs.length : Nat) : Int) := Int.ofNat_lt.2 hi
    have hg0 : (fs)[i]? = some ((fs)[i]) := List.getElem?_eq_getElem (by omega)
    simp only [go_sem, hb, hA, e5, BEq.rfl, hg0]
    try simp only [go_sem, hA, e5, BEq.rfl, hil, hg0]
    (try simp only [go_sem, hA, e5, BEq.rfl, hil, hg0]); repeat' (first | (with_reducible first | refine c_split ?_ ?_ | refine w_split ?_ ?_ | refine tw_split ?_ ?_) <;> intro hb <;> try simp only [go_sem, hb, hA, e5, BEq.rfl, hil, hg0] | (first | with_reducible refine d69_0_LMark (by with_unfolding_all rfl) (by kernel_rfl) ?_ | refine call_c (c_eqFile _ _ ?_) | fail) <;> try simp only [go_sem, hA, e5, BEq.rfl, hil, hg0] | fail)
    refine GC.now (hJ _ _ hi (by simp only [go_sem, hA, e5, BEq.rfl]) ⟨?_, ?_⟩) <;> try simp only [go_sem, hA, e5, BEq.rfl, hw]
theorem c_eqDisk (d : Disk) (hn : d.files.length ≤ 1000000000) (K : AV → AH → Prop) (hk : K (.one (.c (.bool (true)))) []) : ACalls Tryz.prog 25 [.agg (diskC d), .agg (diskC d)] [] K := by
  refine acall_c Tryz.f25.results.toList mixed Tryz.func25 rfl rfl (by kernel_rfl) ?_
  intro Q hQ hQO
  simp only [go_sem, BEq.rfl]
  (try simp only [go_sem, BEq.rfl]); repeat' (first | (with_reducible first | refine c_split ?_ ?_ | refine w_split ?_ ?_) <;> intro hb <;> try simp only [go_sem, hb, BEq.rfl] | refine call_c (c_eqFileS _ hn _ ?_) <;> try simp only [go_sem, BEq.rfl] | with_reducible refine hQ _ _ ?_ <;> simp only [Tryz.f25, go_sem, BEq.rfl])
  exact hk
/-! ### Marks -/
def markF (k : Int) (i : Nat) : File := ⟨k + 3 * i, markS (k + 3 * i + 1), markS (k + 3 * i + 2)⟩
def marksF (k : Int) (n : Nat) : List File := (List.range n).map (markF k)
theorem marksF_len (k : Int) (n : Nat) : (marksF k n).length = n := by simp [marksF]
theorem marksF_tk (k : Int) (n : Nat) : ((marksF k n).map fileC).take n = (marksF k n).map fileC := List.take_of_length_le (by simp [marksF])
theorem c_markFileS (xs : List File) (k : Int) (l g : Nat) (cap : Option Nat) (h0 : AH) (hl : h0[l]? = some (.own g 125 3 cap (xs.map fileC))) (hn : xs.length ≤ 1000000000) (hk0 : 0 ≤ k) (hk1 : k ≤ 1000000000)
    (K : AV → AH → Prop) (hk : K (.one (.c (.int .i64 (k + 3 * xs.length)))) (h0.set l (.own g 125 3 cap ((marksF k xs.length).map fileC)))) : ACalls Tryz.prog 70 [.one (.sl l g 0 xs.length), (.one (.c (.int .i64 (k))))] h0 K := by
  have hall : ∀ o, (h0.set l o)[l]? = some o := set_at hl
  refine acall_m Tryz.f70.results.toList mixed Tryz.func70 rfl rfl (by kernel_rfl) ?_
  intro hwf Q hQ
  simp only [go_sem, hl]
  refine for_at (xs.length) [0] (fun i f h => f 1 = (.one (.c (.int .i64 (k + 3 * i)))) ∧ f 5 = (.one (.c (.int .i64 (i)))) ∧ h = h0.set l (.own g 125 3 cap ((fillR (markF k) xs i).map fileC))) (GC.now ?_) ?_
  · simp only [go_sem, nc_0, true_and, hall, hl]
    rw [fill_0, set_same hl]; simp
  · rintro i f h J hi hA ⟨e1, e5, rfl⟩ hJ
    simp only [go_sem, hall, hl] at hA
    simp only [go_sem, hA, e1, e5, hall, hl]
    refine c_split (fun hb => ?_) (fun hb => ?_)
    rotate_left
    · simp only [go_sem, hb, hA, e1, e5, hall, hl]
      obtain rfl := ge_len hb hi
      refine hQ (h0.set l (.own g 125 3 cap ((fillR (markF k) xs xs.length).map fileC))) _ _ ?_; refine GC.now (ret_m (by simp only [go_sem, Tryz.f70, hA, e1, e5, hall, hl]; exact _root_.id rfl) (by simp only [go_sem]) (by simp) (by first | exact hwf | exact wf_set hwf (by simp only [go_sem, hA, e1, e5, hall, hl]) | exact wf_set2 hwf (by simp only [go_sem, hA, e1, e5, hall, hl]) (by simp only [go_sem, hA, e1, e5, hall, hl]) | (simp only [go_sem]; done)) (by first | exact ⟨_, _root_.id rfl⟩ | exact ⟨[], (List.append_nil _).symm⟩) ?_) <;> simp only [go_sem, hA, e1, e5, hall, hl]
      rw [fill_all]
      exact hk
    have hi := lt_len hb
    have hw := wrap_nat i (by omega)
    have hil : (i : Int) < ((xs.length : Nat) : Int) := Int.ofNat_lt.2 hi
    have hg0 : (xs)[i]? = some ((xs)[i]) := List.getElem?_eq_getElem (by omega)
    simp only [go_sem, hb, hA, e1, e5, hall, hl, hg0]
    try simp only [go_sem, hA, e1, e5, hall, hl, hil, hg0]
    have hold := fill_get (markF k) xs i
    rw [hg0] at hold
    have hself : ∀ x, ((fillR (markF k) xs i).set i x)[i]? = some x := set_at hold
    have hset : (fillR (markF k) xs i).set i ⟨k + 3 * i, markS (k + 3 * i + 1), markS (k + 3 * i + 2)⟩ = fillR (markF k) xs (i + 1) := fill_set (markF k) xs i hi _ rfl
    have w1 : wrap64 (k + 3 * (i : Int) + 1) = k + 3 * i + 1 := by unfold wrap64; omega
    have w2 : wrap64 (k + 3 * (i : Int) + 1 + 1) = k + 3 * i + 2 := by unfold wrap64; omega
    have w3 : wrap64 (k + 3 * (i : Int) + 2 + 1) = k + 3 * ((i + 1 : Nat) : Int) := by unfold wrap64; omega
    (try simp only [go_sem, hA, e1, e5, hall, hl, hil, hg0, hold, hself, List.set_set, w1, w2, w3]); repeat' (first | (with_reducible first | refine c_split ?_ ?_ | refine w_split ?_ ?_) <;> intro hb <;> try simp only [go_sem, hb, hA, e1, e5, hall, hl, hil, hg0, hold, hself, List.set_set, w1, w2, w3] | refine call_c (c_markText _ _ (by omega) ?_) <;> try simp only [go_sem, hA, e1, e5, hall, hl, hil, hg0, hold, hself, List.set_set, w1, w2, w3] | fail)
    refine GC.now (hJ _ _ hi (by simp only [go_sem, hA, e1, e5, hall, hl]) ⟨?_, ?_, ?_⟩) <;> try simp only [go_sem, hA, e1, e5, hall, hl, hw, hset]
theorem c_markDisk (room : Int) (xs : List File) (k : Int) (l g : Nat) (cap : Option Nat) (h0 : AH) (hl : h0[l]? = some (.own g 125 3 cap (xs.map fileC))) (hn : xs.length ≤ 1000000000) (hk0 : 0 ≤ k) (hk1 : k ≤ 1000000000)
    (K : AV → AH → Prop) (hk : K (.one (.c (.int .i64 (k + 3 * xs.length)))) (h0.set l (.own g 125 3 cap ((marksF k xs.length).map fileC)))) : ACalls Tryz.prog 26 [.agg [.c (.int .i64 (room)), .sl l g 0 xs.length], (.one (.c (.int .i64 (k))))] h0 K := by
  have hlt := (List.getElem?_eq_some_iff.1 hl).1
  refine acall_m Tryz.f26.results.toList mixed Tryz.func26 rfl rfl (by kernel_rfl) ?_
  intro hwf Q hQ
  simp only [go_sem, hl]
  refine call_h (c_markFileS xs k l g cap _ (h_old _ hl) hn hk0 hk1 _ ?_)
  simp only [go_sem, List.set_append_left _ _ hlt]
  refine hQ (h0.set l (.own g 125 3 cap ((marksF k xs.length).map fileC))) _ _ ?_; refine GC.now (ret_m (by simp only [go_sem, Tryz.f26]; exact _root_.id rfl) (by simp only [go_sem]) (by simp) (by first | exact hwf | exact wf_set hwf (by simp only [go_sem]) | exact wf_set2 hwf (by simp only [go_sem]) (by simp only [go_sem]) | (simp only [go_sem]; done)) (by first | exact ⟨_, _root_.id rfl⟩ | exact ⟨[], (List.append_nil _).symm⟩) ?_) <;> simp only [go_sem]
  exact hk
theorem c_heldFileS (n : Nat) (k : Int) (hn : n ≤ 1000000000) (hk0 : 0 ≤ k) (hk1 : k ≤ 1000000000) (K : AV → AH → Prop) (hk : K (.one (.c (.int .i64 (k + 3 * n)))) []) : ACalls Tryz.prog 89 [(.one (.im ((marksF k n).map fileC))), (.one (.c (.int .i64 (k))))] [] K := by
  have hm := marksF_len k n
  refine acall_c Tryz.f89.results.toList mixed Tryz.func89 rfl rfl (by kernel_rfl) ?_
  intro Q hQ hQO
  simp only [go_sem, BEq.rfl]
  refine for_at (n) [0] (fun i f h => f 1 = (.one (.c (.int .i64 (k + 3 * i)))) ∧ f 5 = (.one (.c (.int .i64 (i)))) ∧ h = []) (GC.now ?_) ?_
  · simp only [go_sem, nc_0, true_and, hm]
    simp
  · rintro i f h J hi hA ⟨e1, e5, rfl⟩ hJ
    simp only [go_sem, hm] at hA
    simp only [go_sem, hA, e1, e5, hm]
    refine c_split (fun hb => ?_) (fun hb => ?_)
    rotate_left
    · simp only [go_sem, hb, hA, e1, e5, hm]
      obtain rfl := ge_len hb hi
      (try simp only [go_sem, hA, e1, e5, hm]); repeat' (first | (with_reducible first | refine c_split ?_ ?_ | refine w_split ?_ ?_ | refine tw_split ?_ ?_) <;> intro hb <;> try simp only [go_sem, hb, hA, e1, e5, hm] | (first | with_reducible refine d89_0_LMark (by with_unfolding_all rfl) (by kernel_rfl) ?_ | with_reducible refine d89_1_LMark (by with_unfolding_all rfl) (by kernel_rfl) ?_ | fail) <;> try simp only [go_sem, hA, e1, e5, hm] | with_reducible refine hQ _ _ ?_ <;> simp only [Tryz.f89, go_sem, hA, e1, e5, hm])
      exact hk
    have hi := lt_len hb
    have hw := wrap_nat i (by omega)
    have hil : (i : Int) < ((n : Nat) : Int) := Int.ofNat_lt.2 hi
    simp only [go_sem, hb, hA, e1, e5, hm]
    try simp only [go_sem, hA, e1, e5, hm, hil]
    have hg : (marksF k n)[i]? = some (markF k i) := by simp [marksF, hi]
    have w1 : wrap64 (k + 3 * (i : Int) + 1) = k + 3 * i + 1 := by unfold wrap64; omega
    have w2 : wrap64 (k + 3 * (i : Int) + 1 + 1) = k + 3 * i + 2 := by unfold wrap64; omega
    have w3 : wrap64 (k + 3 * (i : Int) + 2 + 1) = k + 3 * ((i + 1 : Nat) : Int) := by unfold wrap64; omega
    (try simp only [go_sem, hA, e1, e5, hm, hil, hg, markF, BEq.rfl, w1, w2, w3]); repeat' (first | (with_reducible first | refine c_split ?_ ?_ | refine w_split ?_ ?_ | refine tw_split ?_ ?_) <;> intro hb <;> try simp only [go_sem, hb, hA, e1, e5, hm, hil, hg, markF, BEq.rfl, w1, w2, w3] | (first | with_reducible refine d89_0_LMark (by with_unfolding_all rfl) (by kernel_rfl) ?_ | with_reducible refine d89_1_LMark (by with_unfolding_all rfl) (by kernel_rfl) ?_ | refine call_c (c_markText _ _ (by omega) ?_) | fail) <;> try simp only [go_sem, hA, e1, e5, hm, hil, hg, markF, BEq.rfl, w1, w2, w3] | fail)

    refine GC.now (hJ _ _ hi (by simp only [go_sem, hA, e1, e5, hm]) ⟨?_, ?_, ?_⟩) <;> try simp only [go_sem, hA, e1, e5, hm, hw]
theorem c_heldDisk (room : Int) (n : Nat) (k : Int) (hn : n ≤ 1000000000) (hk0 : 0 ≤ k) (hk1 : k ≤ 1000000000) (K : AV → AH → Prop) (hk : K (.one (.c (.int .i64 (k + 3 * n)))) []) : ACalls Tryz.prog 33 [.agg [.c (.int .i64 (room)), .im ((marksF k n).map fileC)], (.one (.c (.int .i64 (k))))] [] K := by
  have h0 : decide (k + 3 * (n : Int) < 0) = false := decide_eq_false (by omega)
  refine acall_c Tryz.f33.results.toList mixed Tryz.func33 rfl rfl (by kernel_rfl) ?_
  intro Q hQ hQO
  simp only [go_sem]
  (try simp only [go_sem, h0]); repeat' (first | (with_reducible first | refine c_split ?_ ?_ | refine w_split ?_ ?_) <;> intro hb <;> try simp only [go_sem, hb, h0] | refine call_c (c_heldFileS _ _ hn hk0 hk1 _ ?_) <;> try simp only [go_sem, h0] | with_reducible refine hQ _ _ ?_ <;> simp only [Tryz.f33, go_sem, h0])
  exact hk
end Go.Proofs.YtlefjpbhbiajfaaGreat
end
section
namespace Go.Proofs.YtlefjpbhbiajfaaGreat
open Go.BL Go.RowKit
set_option linter.unusedVariables false
set_option linter.unusedSimpArgs false
set_option maxRecDepth 100000
attribute [local go_sem] intC
end Go.Proofs.YtlefjpbhbiajfaaGreat
end
section
namespace Go.Proofs.YtlefjpbhbiajfaaGreat
open Go.BL Go.RowKit
set_option linter.unusedVariables false
set_option linter.unusedSimpArgs false
set_option maxRecDepth 100000
theorem d113_0_LRec : DrawL Tryz.prog 0 17 (.on [(0, true, true), (1, true, true), (2, true, true), (3, true, true), (4, true, false), (5, false, false), (6, false, false), (7, false, false), (8, false, true), (9, false, true)] .nil) := draw_L
theorem d114_0_LRec : DrawL Tryz.prog 0 17 (.on [(0, true, true), (1, true, true), (2, true, true), (3, true, true), (4, true, false), (5, false, false), (6, false, false), (7, false, false), (8, false, true), (9, false, true)] .nil) := draw_L
theorem d115_0_LRec : DrawL Tryz.prog 0 17 (.on [(0, true, true), (1, true, true), (2, true, true), (3, true, true), (4, true, false), (5, false, false), (6, false, false), (7, false, false), (8, false, true), (9, false, true)] .nil) := draw_L
theorem d116_0_LRec : DrawL Tryz.prog 0 17 (.on [(0, true, true), (1, true, true), (2, true, true), (3, true, true), (4, true, false), (5, false, false), (6, false, false), (7, false, false), (8, false, true), (9, false, true)] .nil) := draw_L
theorem d117_0_LRec : DrawL Tryz.prog 0 17 (.on [(0, true, true), (1, true, true), (2, true, true), (3, true, true), (4, true, false), (5, false, false), (6, false, false), (7, false, false), (8, false, true), (9, false, true)] .nil) := draw_L
structure Account where
  no : Int
  kind : Int
def accountC (x : Account) : List CV := [.c (.int .i64 (x.no)), .c (.int .i64 (x.kind))]
attribute [local go_sem] accountC
theorem accountC_set (xs : List (Account)) (q : Nat) (a0 a1 : Int) : (xs.map accountC).set q [.c (.int .i64 (a0)), .c (.int .i64 (a1))] = (xs.set q (⟨a0, a1⟩ : Account)).map accountC := by rw [List.map_set]; rfl
theorem accountC_rep (q : Nat) (a0 a1 : Int) : List.replicate q [.c (.int .i64 (a0)), .c (.int .i64 (a1))] = (List.replicate q (⟨a0, a1⟩ : Account)).map accountC := map_rep _ _ _ _ rfl
theorem accountC_tk (xs : List (Account)) : (xs.map accountC).take xs.length = xs.map accountC := List.take_of_length_le (by simp)
attribute [go_sem] accountC_tk accountC_set accountC_rep
instance : Inhabited Account := ⟨⟨0, 0⟩⟩
theorem c_toAccount (x : Account) (K : AV → AH → Prop) (hk : K (.agg (accountC x)) []) : ACalls Tryz.prog 203 [.agg (accountC x)] [] K := by
  refine acall_c Tryz.f203.results.toList mixed Tryz.func203 rfl rfl (by kernel_rfl) ?_
  intro Q hQ hQO
  simp only [go_sem]
  (try simp only [go_sem]); repeat' (first | (with_reducible first | refine c_split ?_ ?_ | refine w_split ?_ ?_) <;> intro hb <;> try simp only [go_sem, hb] | with_reducible refine hQ _ _ ?_ <;> simp only [Tryz.f203, go_sem])
  exact hk
theorem c_toAccountS (xs : List Account) (hn : xs.length ≤ 1000000000) (K : AV → AH → Prop) (hk : K (.one (.sl 0 0 0 xs.length)) [.own 0 129 2 (some xs.length) (xs.map accountC)]) : ACalls Tryz.prog 133 [(.one (.im (xs.map accountC)))] [] K := by
  refine acall_c Tryz.f133.results.toList mixed Tryz.func133 rfl rfl (by kernel_rfl) ?_
  intro Q hQ hQO
  simp only [go_sem]
  refine ⟨by omega, Nat.le_trans hn (by decide), ?_⟩
  refine for_at (xs.length) [0, 3] (fun i f h => f 4 = (.one (.c (.int .i64 (i)))) ∧ h = [.own 0 129 2 (some xs.length) ((fillR (fun j => xs[j]?.getD ⟨0, 0⟩) (List.replicate xs.length ⟨0, 0⟩) i).map accountC)]) (GC.now ?_) ?_
  · simp only [go_sem, nc_0, true_and, fill_0]
  · rintro i f h J hi hA ⟨e4, rfl⟩ hJ
    simp only [go_sem, fill_0] at hA
    simp only [go_sem, hA, e4, fill_0]
    refine c_split (fun hb => ?_) (fun hb => ?_)
    rotate_left
    · simp only [go_sem, hb, hA, e4, fill_0]
      obtain rfl := ge_len hb hi
      (try simp only [go_sem, hA, e4, fill_0, fill_copy xs _ _ List.length_replicate]); repeat' (first | (with_reducible first | refine c_split ?_ ?_ | refine w_split ?_ ?_) <;> intro hb <;> try simp only [go_sem, hb, hA, e4, fill_0, fill_copy xs _ _ List.length_replicate] | fail)
      refine hQO [0] _ _ (GC.now ?_) <;> simp only [Tryz.f133, go_sem, List.nodup_cons, List.nodup_nil, List.mem_cons, List.not_mem_nil, or_false, not_false_eq_true, List.idxOf?_cons, List.idxOf?_nil, Option.map_none]
      exact hk
    have hi := lt_len hb
    have hw := wrap_nat i (by omega)
    have hil : (i : Int) < ((xs.length : Nat) : Int) := Int.ofNat_lt.2 hi
    have hg0 : (xs)[i]? = some ((xs)[i]) := List.getElem?_eq_getElem (by omega)
    simp only [go_sem, hb, hA, e4, fill_0, hg0]
    try simp only [go_sem, hA, e4, fill_0, hil, hg0]
    have hold := fill_get (fun j => xs[j]?.getD (⟨0, 0⟩ : Account)) (List.replicate xs.length ⟨0, 0⟩) i
    rw [List.getElem?_replicate, if_pos hi] at hold
    have hset := fill_set (fun j => xs[j]?.getD (⟨0, 0⟩ : Account)) (List.replicate xs.length ⟨0, 0⟩) i (by simpa using hi) xs[i] (by rw [hg0]; rfl)
    (try simp only [go_sem, hA, e4, fill_0, hil, hg0, hold]); repeat' (first | (with_reducible first | refine c_split ?_ ?_ | refine w_split ?_ ?_) <;> intro hb <;> try simp only [go_sem, hb, hA, e4, fill_0, hil, hg0, hold] | refine call_c (c_toAccount _ _ ?_) <;> try simp only [go_sem, hA, e4, fill_0, hil, hg0, hold] | fail)
    refine gc_trim 1 (by decide) (by simp only [go_sem]) (by simp only [go_sem]) (hJ _ _ hi (by simp only [go_sem, hA, e4, fill_0]) ⟨?_, ?_⟩) <;> try simp only [go_sem, hA, e4, fill_0, hw, hset]
theorem c_szAccountS (xs : List Account) (left : Int) (hn : xs.length ≤ 1000000000000000) (h0 : 0 ≤ left) (h1 : left ≤ 1048576) (K : AV → AH → Prop) (hk : ∀ r, (0 ≤ r → r = left - xs.length) → K (.one (.c (.int .i64 (r)))) []) : ACalls Tryz.prog 128 [(.one (.im (xs.map accountC))), (.one (.c (.int .i64 (left))))] [] K := by
  refine acall_c Tryz.f128.results.toList mixed Tryz.func128 rfl rfl (by kernel_rfl) ?_
  intro Q hQ hQO
  simp only [go_sem]
  (try simp only [go_sem]); repeat' (first | (with_reducible first | refine c_split ?_ ?_ | refine w_split ?_ ?_) <;> intro hb <;> try simp only [go_sem, hb] | with_reducible refine hQ _ _ ?_ <;> simp only [Tryz.f128, go_sem])
  · exact hk _ (by intro q; omega)
  · exact hk _ (by intro q; unfold wrap64; omega)
theorem c_eqAccount (x : Account) (K : AV → AH → Prop) (hk : K (.one (.c (.bool (true)))) []) : ACalls Tryz.prog 198 [.agg (accountC x), .agg (accountC x)] [] K := by
  refine acall_c Tryz.f198.results.toList mixed Tryz.func198 rfl rfl (by kernel_rfl) ?_
  intro Q hQ hQO
  simp only [go_sem, BEq.rfl]
  (try simp only [go_sem, BEq.rfl]); repeat' (first | (with_reducible first | refine c_split ?_ ?_ | refine w_split ?_ ?_) <;> intro hb <;> try simp only [go_sem, hb, BEq.rfl] | with_reducible refine hQ _ _ ?_ <;> simp only [Tryz.f198, go_sem, BEq.rfl])
  exact hk
theorem c_eqAccountS (xs : List Account) (hn : xs.length ≤ 1000000000) (K : AV → AH → Prop) (hk : K (.one (.c (.bool (true)))) []) : ACalls Tryz.prog 113 [(.one (.im (xs.map accountC))), (.one (.im (xs.map accountC)))] [] K := by
  refine acall_c Tryz.f113.results.toList mixed Tryz.func113 rfl rfl (by kernel_rfl) ?_
  intro Q hQ hQO
  simp only [go_sem, BEq.rfl]
  refine for_at (xs.length) [0, 1] (fun i f h => f 5 = (.one (.c (.int .i64 (i)))) ∧ h = []) (GC.now ?_) ?_
  · simp only [go_sem, nc_0, true_and, BEq.rfl]
  · rintro i f h J hi hA ⟨e5, rfl⟩ hJ
    simp only [go_sem, BEq.rfl] at hA
    simp only [go_sem, hA, e5, BEq.rfl]
    refine c_split (fun hb => ?_) (fun hb => ?_)
    rotate_left
    · simp only [go_sem, hb, hA, e5, BEq.rfl]
      obtain rfl := ge_len hb hi
      (try simp only [go_sem, hA, e5, BEq.rfl]); repeat' (first | (with_reducible first | refine c_split ?_ ?_ | refine w_split ?_ ?_ | refine tw_split ?_ ?_) <;> intro hb <;> try simp only [go_sem, hb, hA, e5, BEq.rfl] | with_reducible refine d113_0_LRec (by with_unfolding_all rfl) (by kernel_rfl) ?_ <;> try simp only [go_sem, hA, e5, BEq.rfl] | with_reducible refine hQ _ _ ?_ <;> simp only [Tryz.f113, go_sem, hA, e5, BEq.rfl])
      exact hk
    have hi := lt_len hb
    have hw := wrap_nat i (by omega)
    have hil : (i : Int) < ((xs.length : Nat) : Int) := Int.ofNat_lt.2 hi
    have hg0 : (xs)[i]? = some ((xs)[i]) := List.getElem?_eq_getElem (by omega)
    simp only [go_sem, hb, hA, e5, BEq.rfl, hg0]
    try simp only [go_sem, hA, e5, BEq.rfl, hil, hg0]
    (try simp only [go_sem, hA, e5, BEq.rfl, hil, hg0]); repeat' (first | (with_reducible first | refine c_split ?_ ?_ | refine w_split ?_ ?_ | refine tw_split ?_ ?_) <;> intro hb <;> try simp only [go_sem, hb, hA, e5, BEq.rfl, hil, hg0] | (first | with_reducible refine d113_0_LRec (by with_unfolding_all rfl) (by kernel_rfl) ?_ | refine call_c (c_eqAccount _ _ ?_) | fail) <;> try simp only [go_sem, hA, e5, BEq.rfl, hil, hg0] | fail)
    refine GC.now (hJ _ _ hi (by simp only [go_sem, hA, e5, BEq.rfl]) ⟨?_, ?_⟩) <;> try simp only [go_sem, hA, e5, BEq.rfl, hw]
theorem c_toInstr (x : Account) (K : AV → AH → Prop) (hk : K (.agg (accountC x)) []) : ACalls Tryz.prog 204 [.agg (accountC x)] [] K := by
  refine acall_c Tryz.f204.results.toList mixed Tryz.func204 rfl rfl (by kernel_rfl) ?_
  intro Q hQ hQO
  simp only [go_sem]
  (try simp only [go_sem]); repeat' (first | (with_reducible first | refine c_split ?_ ?_ | refine w_split ?_ ?_) <;> intro hb <;> try simp only [go_sem, hb] | with_reducible refine hQ _ _ ?_ <;> simp only [Tryz.f204, go_sem])
  exact hk
theorem c_toInstrS (xs : List Account) (hn : xs.length ≤ 1000000000) (K : AV → AH → Prop) (hk : K (.one (.sl 0 0 0 xs.length)) [.own 0 131 2 (some xs.length) (xs.map accountC)]) : ACalls Tryz.prog 134 [(.one (.im (xs.map accountC)))] [] K := by
  refine acall_c Tryz.f134.results.toList mixed Tryz.func134 rfl rfl (by kernel_rfl) ?_
  intro Q hQ hQO
  simp only [go_sem]
  refine ⟨by omega, Nat.le_trans hn (by decide), ?_⟩
  refine for_at (xs.length) [0, 3] (fun i f h => f 4 = (.one (.c (.int .i64 (i)))) ∧ h = [.own 0 131 2 (some xs.length) ((fillR (fun j => xs[j]?.getD ⟨0, 0⟩) (List.replicate xs.length ⟨0, 0⟩) i).map accountC)]) (GC.now ?_) ?_
  · simp only [go_sem, nc_0, true_and, fill_0]
  · rintro i f h J hi hA ⟨e4, rfl⟩ hJ
    simp only [go_sem, fill_0] at hA
    simp only [go_sem, hA, e4, fill_0]
    refine c_split (fun hb => ?_) (fun hb => ?_)
    rotate_left
    · simp only [go_sem, hb, hA, e4, fill_0]
      obtain rfl := ge_len hb hi
      (try simp only [go_sem, hA, e4, fill_0, fill_copy xs _ _ List.length_replicate]); repeat' (first | (with_reducible first | refine c_split ?_ ?_ | refine w_split ?_ ?_) <;> intro hb <;> try simp only [go_sem, hb, hA, e4, fill_0, fill_copy xs _ _ List.length_replicate] | fail)
      refine hQO [0] _ _ (GC.now ?_) <;> simp only [Tryz.f134, go_sem, List.nodup_cons, List.nodup_nil, List.mem_cons, List.not_mem_nil, or_false, not_false_eq_true, List.idxOf?_cons, List.idxOf?_nil, Option.map_none]
      exact hk
    have hi := lt_len hb
    have hw := wrap_nat i (by omega)
    have hil : (i : Int) < ((xs.length : Nat) : Int) := Int.ofNat_lt.2 hi
    have hg0 : (xs)[i]? = some ((xs)[i]) := List.getElem?_eq_getElem (by omega)
    simp only [go_sem, hb, hA, e4, fill_0, hg0]
    try simp only [go_sem, hA, e4, fill_0, hil, hg0]
    have hold := fill_get (fun j => xs[j]?.getD (⟨0, 0⟩ : Account)) (List.replicate xs.length ⟨0, 0⟩) i
    rw [List.getElem?_replicate, if_pos hi] at hold
    have hset := fill_set (fun j => xs[j]?.getD (⟨0, 0⟩ : Account)) (List.replicate xs.length ⟨0, 0⟩) i (by simpa using hi) xs[i] (by rw [hg0]; rfl)
    (try simp only [go_sem, hA, e4, fill_0, hil, hg0, hold]); repeat' (first | (with_reducible first | refine c_split ?_ ?_ | refine w_split ?_ ?_) <;> intro hb <;> try simp only [go_sem, hb, hA, e4, fill_0, hil, hg0, hold] | refine call_c (c_toInstr _ _ ?_) <;> try simp only [go_sem, hA, e4, fill_0, hil, hg0, hold] | fail)
    refine gc_trim 1 (by decide) (by simp only [go_sem]) (by simp only [go_sem]) (hJ _ _ hi (by simp only [go_sem, hA, e4, fill_0]) ⟨?_, ?_⟩) <;> try simp only [go_sem, hA, e4, fill_0, hw, hset]
theorem c_szInstrS (xs : List Account) (left : Int) (hn : xs.length ≤ 1000000000000000) (h0 : 0 ≤ left) (h1 : left ≤ 1048576) (K : AV → AH → Prop) (hk : ∀ r, (0 ≤ r → r = left - xs.length) → K (.one (.c (.int .i64 (r)))) []) : ACalls Tryz.prog 129 [(.one (.im (xs.map accountC))), (.one (.c (.int .i64 (left))))] [] K := by
  refine acall_c Tryz.f129.results.toList mixed Tryz.func129 rfl rfl (by kernel_rfl) ?_
  intro Q hQ hQO
  simp only [go_sem]
  (try simp only [go_sem]); repeat' (first | (with_reducible first | refine c_split ?_ ?_ | refine w_split ?_ ?_) <;> intro hb <;> try simp only [go_sem, hb] | with_reducible refine hQ _ _ ?_ <;> simp only [Tryz.f129, go_sem])
  · exact hk _ (by intro q; omega)
  · exact hk _ (by intro q; unfold wrap64; omega)
theorem c_eqInstr (x : Account) (K : AV → AH → Prop) (hk : K (.one (.c (.bool (true)))) []) : ACalls Tryz.prog 199 [.agg (accountC x), .agg (accountC x)] [] K := by
  refine acall_c Tryz.f199.results.toList mixed Tryz.func199 rfl rfl (by kernel_rfl) ?_
  intro Q hQ hQO
  simp only [go_sem, BEq.rfl]
  (try simp only [go_sem, BEq.rfl]); repeat' (first | (with_reducible first | refine c_split ?_ ?_ | refine w_split ?_ ?_) <;> intro hb <;> try simp only [go_sem, hb, BEq.rfl] | with_reducible refine hQ _ _ ?_ <;> simp only [Tryz.f199, go_sem, BEq.rfl])
  exact hk
theorem c_eqInstrS (xs : List Account) (hn : xs.length ≤ 1000000000) (K : AV → AH → Prop) (hk : K (.one (.c (.bool (true)))) []) : ACalls Tryz.prog 114 [(.one (.im (xs.map accountC))), (.one (.im (xs.map accountC)))] [] K := by
  refine acall_c Tryz.f114.results.toList mixed Tryz.func114 rfl rfl (by kernel_rfl) ?_
  intro Q hQ hQO
  simp only [go_sem, BEq.rfl]
  refine for_at (xs.length) [0, 1] (fun i f h => f 5 = (.one (.c (.int .i64 (i)))) ∧ h = []) (GC.now ?_) ?_
  · simp only [go_sem, nc_0, true_and, BEq.rfl]
  · rintro i f h J hi hA ⟨e5, rfl⟩ hJ
    simp only [go_sem, BEq.rfl] at hA
    simp only [go_sem, hA, e5, BEq.rfl]
    refine c_split (fun hb => ?_) (fun hb => ?_)
    rotate_left
    · simp only [go_sem, hb, hA, e5, BEq.rfl]
      obtain rfl := ge_len hb hi
      (try simp only [go_sem, hA, e5, BEq.rfl]); repeat' (first | (with_reducible first | refine c_split ?_ ?_ | refine w_split ?_ ?_ | refine tw_split ?_ ?_) <;> intro hb <;> try simp only [go_sem, hb, hA, e5, BEq.rfl] | with_reducible refine d114_0_LRec (by with_unfolding_all rfl) (by kernel_rfl) ?_ <;> try simp only [go_sem, hA, e5, BEq.rfl] | with_reducible refine hQ _ _ ?_ <;> simp only [Tryz.f114, go_sem, hA, e5, BEq.rfl])
      exact hk
    have hi := lt_len hb
    have hw := wrap_nat i (by omega)
    have hil : (i : Int) < ((xs.length : Nat) : Int) := Int.ofNat_lt.2 hi
    have hg0 : (xs)[i]? = some ((xs)[i]) := List.getElem?_eq_getElem (by omega)
    simp only [go_sem, hb, hA, e5, BEq.rfl, hg0]
    try simp only [go_sem, hA, e5, BEq.rfl, hil, hg0]
    (try simp only [go_sem, hA, e5, BEq.rfl, hil, hg0]); repeat' (first | (with_reducible first | refine c_split ?_ ?_ | refine w_split ?_ ?_ | refine tw_split ?_ ?_) <;> intro hb <;> try simp only [go_sem, hb, hA, e5, BEq.rfl, hil, hg0] | (first | with_reducible refine d114_0_LRec (by with_unfolding_all rfl) (by kernel_rfl) ?_ | refine call_c (c_eqInstr _ _ ?_) | fail) <;> try simp only [go_sem, hA, e5, BEq.rfl, hil, hg0] | fail)
    refine GC.now (hJ _ _ hi (by simp only [go_sem, hA, e5, BEq.rfl]) ⟨?_, ?_⟩) <;> try simp only [go_sem, hA, e5, BEq.rfl, hw]
structure Bal where
  account : Int
  instr : Int
  amount : Int
def balC (x : Bal) : List CV := [.c (.int .i64 (x.account)), .c (.int .i64 (x.instr)), .c (.int .i64 (x.amount))]
attribute [local go_sem] balC
theorem balC_set (xs : List (Bal)) (q : Nat) (a0 a1 a2 : Int) : (xs.map balC).set q [.c (.int .i64 (a0)), .c (.int .i64 (a1)), .c (.int .i64 (a2))] = (xs.set q (⟨a0, a1, a2⟩ : Bal)).map balC := by rw [List.map_set]; rfl
theorem balC_rep (q : Nat) (a0 a1 a2 : Int) : List.replicate q [.c (.int .i64 (a0)), .c (.int .i64 (a1)), .c (.int .i64 (a2))] = (List.replicate q (⟨a0, a1, a2⟩ : Bal)).map balC := map_rep _ _ _ _ rfl
theorem balC_tk (xs : List (Bal)) : (xs.map balC).take xs.length = xs.map balC := List.take_of_length_le (by simp)
attribute [go_sem] balC_tk balC_set balC_rep
instance : Inhabited Bal := ⟨⟨0, 0, 0⟩⟩
theorem c_toBal (x : Bal) (K : AV → AH → Prop) (hk : K (.agg (balC x)) []) : ACalls Tryz.prog 205 [.agg (balC x)] [] K := by
  refine acall_c Tryz.f205.results.toList mixed Tryz.func205 rfl rfl (by kernel_rfl) ?_
  intro Q hQ hQO
  simp only [go_sem]
  (try simp only [go_sem]); repeat' (first | (with_reducible first | refine c_split ?_ ?_ | refine w_split ?_ ?_) <;> intro hb <;> try simp only [go_sem, hb] | with_reducible refine hQ _ _ ?_ <;> simp only [Tryz.f205, go_sem])
  exact hk
theorem c_toBalS (xs : List Bal) (hn : xs.length ≤ 1000000000) (K : AV → AH → Prop) (hk : K (.one (.sl 0 0 0 xs.length)) [.own 0 134 3 (some xs.length) (xs.map balC)]) : ACalls Tryz.prog 135 [(.one (.im (xs.map balC)))] [] K := by
  refine acall_c Tryz.f135.results.toList mixed Tryz.func135 rfl rfl (by kernel_rfl) ?_
  intro Q hQ hQO
  simp only [go_sem]
  refine ⟨by omega, Nat.le_trans hn (by decide), ?_⟩
  refine for_at (xs.length) [0, 3] (fun i f h => f 4 = (.one (.c (.int .i64 (i)))) ∧ h = [.own 0 134 3 (some xs.length) ((fillR (fun j => xs[j]?.getD ⟨0, 0, 0⟩) (List.replicate xs.length ⟨0, 0, 0⟩) i).map balC)]) (GC.now ?_) ?_
  · simp only [go_sem, nc_0, true_and, fill_0]
  · rintro i f h J hi hA ⟨e4, rfl⟩ hJ
    simp only [go_sem, fill_0] at hA
    simp only [go_sem, hA, e4, fill_0]
    refine c_split (fun hb => ?_) (fun hb => ?_)
    rotate_left
    · simp only [go_sem, hb, hA, e4, fill_0]
      obtain rfl := ge_len hb hi
      (try simp only [go_sem, hA, e4, fill_0, fill_copy xs _ _ List.length_replicate]); repeat' (first | (with_reducible first | refine c_split ?_ ?_ | refine w_split ?_ ?_) <;> intro hb <;> try simp only [go_sem, hb, hA, e4, fill_0, fill_copy xs _ _ List.length_replicate] | fail)
      refine hQO [0] _ _ (GC.now ?_) <;> simp only [Tryz.f135, go_sem, List.nodup_cons, List.nodup_nil, List.mem_cons, List.not_mem_nil, or_false, not_false_eq_true, List.idxOf?_cons, List.idxOf?_nil, Option.map_none]
      exact hk
    have hi := lt_len hb
    have hw := wrap_nat i (by omega)
    have hil : (i : Int) < ((xs.length : Nat) : Int) := Int.ofNat_lt.2 hi
    have hg0 : (xs)[i]? = some ((xs)[i]) := List.getElem?_eq_getElem (by omega)
    simp only [go_sem, hb, hA, e4, fill_0, hg0]
    try simp only [go_sem, hA, e4, fill_0, hil, hg0]
    have hold := fill_get (fun j => xs[j]?.getD (⟨0, 0, 0⟩ : Bal)) (List.replicate xs.length ⟨0, 0, 0⟩) i
    rw [List.getElem?_replicate, if_pos hi] at hold
    have hset := fill_set (fun j => xs[j]?.getD (⟨0, 0, 0⟩ : Bal)) (List.replicate xs.length ⟨0, 0, 0⟩) i (by simpa using hi) xs[i] (by rw [hg0]; rfl)
    (try simp only [go_sem, hA, e4, fill_0, hil, hg0, hold]); repeat' (first | (with_reducible first | refine c_split ?_ ?_ | refine w_split ?_ ?_) <;> intro hb <;> try simp only [go_sem, hb, hA, e4, fill_0, hil, hg0, hold] | refine call_c (c_toBal _ _ ?_) <;> try simp only [go_sem, hA, e4, fill_0, hil, hg0, hold] | fail)
    refine gc_trim 1 (by decide) (by simp only [go_sem]) (by simp only [go_sem]) (hJ _ _ hi (by simp only [go_sem, hA, e4, fill_0]) ⟨?_, ?_⟩) <;> try simp only [go_sem, hA, e4, fill_0, hw, hset]
theorem c_szBalS (xs : List Bal) (left : Int) (hn : xs.length ≤ 1000000000000000) (h0 : 0 ≤ left) (h1 : left ≤ 1048576) (K : AV → AH → Prop) (hk : ∀ r, (0 ≤ r → r = left - xs.length) → K (.one (.c (.int .i64 (r)))) []) : ACalls Tryz.prog 130 [(.one (.im (xs.map balC))), (.one (.c (.int .i64 (left))))] [] K := by
  refine acall_c Tryz.f130.results.toList mixed Tryz.func130 rfl rfl (by kernel_rfl) ?_
  intro Q hQ hQO
  simp only [go_sem]
  (try simp only [go_sem]); repeat' (first | (with_reducible first | refine c_split ?_ ?_ | refine w_split ?_ ?_) <;> intro hb <;> try simp only [go_sem, hb] | with_reducible refine hQ _ _ ?_ <;> simp only [Tryz.f130, go_sem])
  · exact hk _ (by intro q; omega)
  · exact hk _ (by intro q; unfold wrap64; omega)
theorem c_eqBal (x : Bal) (K : AV → AH → Prop) (hk : K (.one (.c (.bool (true)))) []) : ACalls Tryz.prog 200 [.agg (balC x), .agg (balC x)] [] K := by
  refine acall_c Tryz.f200.results.toList mixed Tryz.func200 rfl rfl (by kernel_rfl) ?_
  intro Q hQ hQO
  simp only [go_sem, BEq.rfl]
  (try simp only [go_sem, BEq.rfl]); repeat' (first | (with_reducible first | refine c_split ?_ ?_ | refine w_split ?_ ?_) <;> intro hb <;> try simp only [go_sem, hb, BEq.rfl] | with_reducible refine hQ _ _ ?_ <;> simp only [Tryz.f200, go_sem, BEq.rfl])
  exact hk
theorem c_eqBalS (xs : List Bal) (hn : xs.length ≤ 1000000000) (K : AV → AH → Prop) (hk : K (.one (.c (.bool (true)))) []) : ACalls Tryz.prog 115 [(.one (.im (xs.map balC))), (.one (.im (xs.map balC)))] [] K := by
  refine acall_c Tryz.f115.results.toList mixed Tryz.func115 rfl rfl (by kernel_rfl) ?_
  intro Q hQ hQO
  simp only [go_sem, BEq.rfl]
  refine for_at (xs.length) [0, 1] (fun i f h => f 5 = (.one (.c (.int .i64 (i)))) ∧ h = []) (GC.now ?_) ?_
  · simp only [go_sem, nc_0, true_and, BEq.rfl]
  · rintro i f h J hi hA ⟨e5, rfl⟩ hJ
    simp only [go_sem, BEq.rfl] at hA
    simp only [go_sem, hA, e5, BEq.rfl]
    refine c_split (fun hb => ?_) (fun hb => ?_)
    rotate_left
    · simp only [go_sem, hb, hA, e5, BEq.rfl]
      obtain rfl := ge_len hb hi
      (try simp only [go_sem, hA, e5, BEq.rfl]); repeat' (first | (with_reducible first | refine c_split ?_ ?_ | refine w_split ?_ ?_ | refine tw_split ?_ ?_) <;> intro hb <;> try simp only [go_sem, hb, hA, e5, BEq.rfl] | with_reducible refine d115_0_LRec (by with_unfolding_all rfl) (by kernel_rfl) ?_ <;> try simp only [go_sem, hA, e5, BEq.rfl] | with_reducible refine hQ _ _ ?_ <;> simp only [Tryz.f115, go_sem, hA, e5, BEq.rfl])
      exact hk
    have hi := lt_len hb
    have hw := wrap_nat i (by omega)
    have hil : (i : Int) < ((xs.length : Nat) : Int) := Int.ofNat_lt.2 hi
    have hg0 : (xs)[i]? = some ((xs)[i]) := List.getElem?_eq_getElem (by omega)
    simp only [go_sem, hb, hA, e5, BEq.rfl, hg0]
    try simp only [go_sem, hA, e5, BEq.rfl, hil, hg0]
    (try simp only [go_sem, hA, e5, BEq.rfl, hil, hg0]); repeat' (first | (with_reducible first | refine c_split ?_ ?_ | refine w_split ?_ ?_ | refine tw_split ?_ ?_) <;> intro hb <;> try simp only [go_sem, hb, hA, e5, BEq.rfl, hil, hg0] | (first | with_reducible refine d115_0_LRec (by with_unfolding_all rfl) (by kernel_rfl) ?_ | refine call_c (c_eqBal _ _ ?_) | fail) <;> try simp only [go_sem, hA, e5, BEq.rfl, hil, hg0] | fail)
    refine GC.now (hJ _ _ hi (by simp only [go_sem, hA, e5, BEq.rfl]) ⟨?_, ?_⟩) <;> try simp only [go_sem, hA, e5, BEq.rfl, hw]
structure Lot where
  account : Int
  instr : Int
  no : Int
  qty : Int
  cost : Int
def lotC (x : Lot) : List CV := [.c (.int .i64 (x.account)), .c (.int .i64 (x.instr)), .c (.int .i64 (x.no)), .c (.int .i64 (x.qty)), .c (.int .i64 (x.cost))]
attribute [local go_sem] lotC
theorem lotC_snoc (xs : List (Lot)) (a0 a1 a2 a3 a4 : Int) : xs.map lotC ++ [[.c (.int .i64 (a0)), .c (.int .i64 (a1)), .c (.int .i64 (a2)), .c (.int .i64 (a3)), .c (.int .i64 (a4))]] = (xs ++ [(⟨a0, a1, a2, a3, a4⟩ : Lot)]).map lotC := by rw [List.map_append]; rfl
theorem lotC_set (xs : List (Lot)) (q : Nat) (a0 a1 a2 a3 a4 : Int) : (xs.map lotC).set q [.c (.int .i64 (a0)), .c (.int .i64 (a1)), .c (.int .i64 (a2)), .c (.int .i64 (a3)), .c (.int .i64 (a4))] = (xs.set q (⟨a0, a1, a2, a3, a4⟩ : Lot)).map lotC := by rw [List.map_set]; rfl
theorem lotC_rep (q : Nat) (a0 a1 a2 a3 a4 : Int) : List.replicate q [.c (.int .i64 (a0)), .c (.int .i64 (a1)), .c (.int .i64 (a2)), .c (.int .i64 (a3)), .c (.int .i64 (a4))] = (List.replicate q (⟨a0, a1, a2, a3, a4⟩ : Lot)).map lotC := map_rep _ _ _ _ rfl
theorem lotC_tk (xs : List (Lot)) : (xs.map lotC).take xs.length = xs.map lotC := List.take_of_length_le (by simp)
attribute [go_sem] lotC_snoc lotC_tk lotC_set lotC_rep
instance : Inhabited Lot := ⟨⟨0, 0, 0, 0, 0⟩⟩
theorem c_toLot (x : Lot) (K : AV → AH → Prop) (hk : K (.agg (lotC x)) []) : ACalls Tryz.prog 206 [.agg (lotC x)] [] K := by
  refine acall_c Tryz.f206.results.toList mixed Tryz.func206 rfl rfl (by kernel_rfl) ?_
  intro Q hQ hQO
  simp only [go_sem]
  (try simp only [go_sem]); repeat' (first | (with_reducible first | refine c_split ?_ ?_ | refine w_split ?_ ?_) <;> intro hb <;> try simp only [go_sem, hb] | with_reducible refine hQ _ _ ?_ <;> simp only [Tryz.f206, go_sem])
  exact hk
theorem c_toLotS (xs : List Lot) (hn : xs.length ≤ 1000000000) (K : AV → AH → Prop) (hk : K (.one (.sl 0 0 0 xs.length)) [.own 0 137 5 (some xs.length) (xs.map lotC)]) : ACalls Tryz.prog 136 [(.one (.im (xs.map lotC)))] [] K := by
  refine acall_c Tryz.f136.results.toList mixed Tryz.func136 rfl rfl (by kernel_rfl) ?_
  intro Q hQ hQO
  simp only [go_sem]
  refine ⟨by omega, Nat.le_trans hn (by decide), ?_⟩
  refine for_at (xs.length) [0, 3] (fun i f h => f 4 = (.one (.c (.int .i64 (i)))) ∧ h = [.own 0 137 5 (some xs.length) ((fillR (fun j => xs[j]?.getD ⟨0, 0, 0, 0, 0⟩) (List.replicate xs.length ⟨0, 0, 0, 0, 0⟩) i).map lotC)]) (GC.now ?_) ?_
  · simp only [go_sem, nc_0, true_and, fill_0]
  · rintro i f h J hi hA ⟨e4, rfl⟩ hJ
    simp only [go_sem, fill_0] at hA
    simp only [go_sem, hA, e4, fill_0]
    refine c_split (fun hb => ?_) (fun hb => ?_)
    rotate_left
    · simp only [go_sem, hb, hA, e4, fill_0]
      obtain rfl := ge_len hb hi
      (try simp only [go_sem, hA, e4, fill_0, fill_copy xs _ _ List.length_replicate]); repeat' (first | (with_reducible first | refine c_split ?_ ?_ | refine w_split ?_ ?_) <;> intro hb <;> try simp only [go_sem, hb, hA, e4, fill_0, fill_copy xs _ _ List.length_replicate] | fail)
      refine hQO [0] _ _ (GC.now ?_) <;> simp only [Tryz.f136, go_sem, List.nodup_cons, List.nodup_nil, List.mem_cons, List.not_mem_nil, or_false, not_false_eq_true, List.idxOf?_cons, List.idxOf?_nil, Option.map_none]
      exact hk
    have hi := lt_len hb
    have hw := wrap_nat i (by omega)
    have hil : (i : Int) < ((xs.length : Nat) : Int) := Int.ofNat_lt.2 hi
    have hg0 : (xs)[i]? = some ((xs)[i]) := List.getElem?_eq_getElem (by omega)
    simp only [go_sem, hb, hA, e4, fill_0, hg0]
    try simp only [go_sem, hA, e4, fill_0, hil, hg0]
    have hold := fill_get (fun j => xs[j]?.getD (⟨0, 0, 0, 0, 0⟩ : Lot)) (List.replicate xs.length ⟨0, 0, 0, 0, 0⟩) i
    rw [List.getElem?_replicate, if_pos hi] at hold
    have hset := fill_set (fun j => xs[j]?.getD (⟨0, 0, 0, 0, 0⟩ : Lot)) (List.replicate xs.length ⟨0, 0, 0, 0, 0⟩) i (by simpa using hi) xs[i] (by rw [hg0]; rfl)
    (try simp only [go_sem, hA, e4, fill_0, hil, hg0, hold]); repeat' (first | (with_reducible first | refine c_split ?_ ?_ | refine w_split ?_ ?_) <;> intro hb <;> try simp only [go_sem, hb, hA, e4, fill_0, hil, hg0, hold] | refine call_c (c_toLot _ _ ?_) <;> try simp only [go_sem, hA, e4, fill_0, hil, hg0, hold] | fail)
    refine gc_trim 1 (by decide) (by simp only [go_sem]) (by simp only [go_sem]) (hJ _ _ hi (by simp only [go_sem, hA, e4, fill_0]) ⟨?_, ?_⟩) <;> try simp only [go_sem, hA, e4, fill_0, hw, hset]
theorem c_szLotS (xs : List Lot) (left : Int) (hn : xs.length ≤ 1000000000000000) (h0 : 0 ≤ left) (h1 : left ≤ 1048576) (K : AV → AH → Prop) (hk : ∀ r, (0 ≤ r → r = left - xs.length) → K (.one (.c (.int .i64 (r)))) []) : ACalls Tryz.prog 131 [(.one (.im (xs.map lotC))), (.one (.c (.int .i64 (left))))] [] K := by
  refine acall_c Tryz.f131.results.toList mixed Tryz.func131 rfl rfl (by kernel_rfl) ?_
  intro Q hQ hQO
  simp only [go_sem]
  (try simp only [go_sem]); repeat' (first | (with_reducible first | refine c_split ?_ ?_ | refine w_split ?_ ?_) <;> intro hb <;> try simp only [go_sem, hb] | with_reducible refine hQ _ _ ?_ <;> simp only [Tryz.f131, go_sem])
  · exact hk _ (by intro q; omega)
  · exact hk _ (by intro q; unfold wrap64; omega)
theorem c_eqLot (x : Lot) (K : AV → AH → Prop) (hk : K (.one (.c (.bool (true)))) []) : ACalls Tryz.prog 201 [.agg (lotC x), .agg (lotC x)] [] K := by
  refine acall_c Tryz.f201.results.toList mixed Tryz.func201 rfl rfl (by kernel_rfl) ?_
  intro Q hQ hQO
  simp only [go_sem, BEq.rfl]
  (try simp only [go_sem, BEq.rfl]); repeat' (first | (with_reducible first | refine c_split ?_ ?_ | refine w_split ?_ ?_) <;> intro hb <;> try simp only [go_sem, hb, BEq.rfl] | with_reducible refine hQ _ _ ?_ <;> simp only [Tryz.f201, go_sem, BEq.rfl])
  exact hk
theorem c_eqLotS (xs : List Lot) (hn : xs.length ≤ 1000000000) (K : AV → AH → Prop) (hk : K (.one (.c (.bool (true)))) []) : ACalls Tryz.prog 116 [(.one (.im (xs.map lotC))), (.one (.im (xs.map lotC)))] [] K := by
  refine acall_c Tryz.f116.results.toList mixed Tryz.func116 rfl rfl (by kernel_rfl) ?_
  intro Q hQ hQO
  simp only [go_sem, BEq.rfl]
  refine for_at (xs.length) [0, 1] (fun i f h => f 5 = (.one (.c (.int .i64 (i)))) ∧ h = []) (GC.now ?_) ?_
  · simp only [go_sem, nc_0, true_and, BEq.rfl]
  · rintro i f h J hi hA ⟨e5, rfl⟩ hJ
    simp only [go_sem, BEq.rfl] at hA
    simp only [go_sem, hA, e5, BEq.rfl]
    refine c_split (fun hb => ?_) (fun hb => ?_)
    rotate_left
    · simp only [go_sem, hb, hA, e5, BEq.rfl]
      obtain rfl := ge_len hb hi
      (try simp only [go_sem, hA, e5, BEq.rfl]); repeat' (first | (with_reducible first | refine c_split ?_ ?_ | refine w_split ?_ ?_ | refine tw_split ?_ ?_) <;> intro hb <;> try simp only [go_sem, hb, hA, e5, BEq.rfl] | with_reducible refine d116_0_LRec (by with_unfolding_all rfl) (by kernel_rfl) ?_ <;> try simp only [go_sem, hA, e5, BEq.rfl] | with_reducible refine hQ _ _ ?_ <;> simp only [Tryz.f116, go_sem, hA, e5, BEq.rfl])
      exact hk
    have hi := lt_len hb
    have hw := wrap_nat i (by omega)
    have hil : (i : Int) < ((xs.length : Nat) : Int) := Int.ofNat_lt.2 hi
    have hg0 : (xs)[i]? = some ((xs)[i]) := List.getElem?_eq_getElem (by omega)
    simp only [go_sem, hb, hA, e5, BEq.rfl, hg0]
    try simp only [go_sem, hA, e5, BEq.rfl, hil, hg0]
    (try simp only [go_sem, hA, e5, BEq.rfl, hil, hg0]); repeat' (first | (with_reducible first | refine c_split ?_ ?_ | refine w_split ?_ ?_ | refine tw_split ?_ ?_) <;> intro hb <;> try simp only [go_sem, hb, hA, e5, BEq.rfl, hil, hg0] | (first | with_reducible refine d116_0_LRec (by with_unfolding_all rfl) (by kernel_rfl) ?_ | refine call_c (c_eqLot _ _ ?_) | fail) <;> try simp only [go_sem, hA, e5, BEq.rfl, hil, hg0] | fail)
    refine GC.now (hJ _ _ hi (by simp only [go_sem, hA, e5, BEq.rfl]) ⟨?_, ?_⟩) <;> try simp only [go_sem, hA, e5, BEq.rfl, hw]
structure Trade where
  no : Int
  buyer : Int
  seller : Int
  paper : Int
  qty : Int
  cash : Int
  price : Int
  state : Int
def tradeC (x : Trade) : List CV := [.c (.int .i64 (x.no)), .c (.int .i64 (x.buyer)), .c (.int .i64 (x.seller)), .c (.int .i64 (x.paper)), .c (.int .i64 (x.qty)), .c (.int .i64 (x.cash)), .c (.int .i64 (x.price)), .c (.int .i64 (x.state))]
attribute [local go_sem] tradeC
theorem tradeC_set (xs : List (Trade)) (q : Nat) (a0 a1 a2 a3 a4 a5 a6 a7 : Int) : (xs.map tradeC).set q [.c (.int .i64 (a0)), .c (.int .i64 (a1)), .c (.int .i64 (a2)), .c (.int .i64 (a3)), .c (.int .i64 (a4)), .c (.int .i64 (a5)), .c (.int .i64 (a6)), .c (.int .i64 (a7))] = (xs.set q (⟨a0, a1, a2, a3, a4, a5, a6, a7⟩ : Trade)).map tradeC := by rw [List.map_set]; rfl
theorem tradeC_rep (q : Nat) (a0 a1 a2 a3 a4 a5 a6 a7 : Int) : List.replicate q [.c (.int .i64 (a0)), .c (.int .i64 (a1)), .c (.int .i64 (a2)), .c (.int .i64 (a3)), .c (.int .i64 (a4)), .c (.int .i64 (a5)), .c (.int .i64 (a6)), .c (.int .i64 (a7))] = (List.replicate q (⟨a0, a1, a2, a3, a4, a5, a6, a7⟩ : Trade)).map tradeC := map_rep _ _ _ _ rfl
theorem tradeC_tk (xs : List (Trade)) : (xs.map tradeC).take xs.length = xs.map tradeC := List.take_of_length_le (by simp)
attribute [go_sem] tradeC_tk tradeC_set tradeC_rep
instance : Inhabited Trade := ⟨⟨0, 0, 0, 0, 0, 0, 0, 0⟩⟩
theorem c_toTrade (x : Trade) (K : AV → AH → Prop) (hk : K (.agg (tradeC x)) []) : ACalls Tryz.prog 207 [.agg (tradeC x)] [] K := by
  refine acall_c Tryz.f207.results.toList mixed Tryz.func207 rfl rfl (by kernel_rfl) ?_
  intro Q hQ hQO
  simp only [go_sem]
  (try simp only [go_sem]); repeat' (first | (with_reducible first | refine c_split ?_ ?_ | refine w_split ?_ ?_) <;> intro hb <;> try simp only [go_sem, hb] | with_reducible refine hQ _ _ ?_ <;> simp only [Tryz.f207, go_sem])
  exact hk
theorem c_toTradeS (xs : List Trade) (hn : xs.length ≤ 1000000000) (K : AV → AH → Prop) (hk : K (.one (.sl 0 0 0 xs.length)) [.own 0 140 8 (some xs.length) (xs.map tradeC)]) : ACalls Tryz.prog 137 [(.one (.im (xs.map tradeC)))] [] K := by
  refine acall_c Tryz.f137.results.toList mixed Tryz.func137 rfl rfl (by kernel_rfl) ?_
  intro Q hQ hQO
  simp only [go_sem]
  refine ⟨by omega, Nat.le_trans hn (by decide), ?_⟩
  refine for_at (xs.length) [0, 3] (fun i f h => f 4 = (.one (.c (.int .i64 (i)))) ∧ h = [.own 0 140 8 (some xs.length) ((fillR (fun j => xs[j]?.getD ⟨0, 0, 0, 0, 0, 0, 0, 0⟩) (List.replicate xs.length ⟨0, 0, 0, 0, 0, 0, 0, 0⟩) i).map tradeC)]) (GC.now ?_) ?_
  · simp only [go_sem, nc_0, true_and, fill_0]
  · rintro i f h J hi hA ⟨e4, rfl⟩ hJ
    simp only [go_sem, fill_0] at hA
    simp only [go_sem, hA, e4, fill_0]
    refine c_split (fun hb => ?_) (fun hb => ?_)
    rotate_left
    · simp only [go_sem, hb, hA, e4, fill_0]
      obtain rfl := ge_len hb hi
      (try simp only [go_sem, hA, e4, fill_0, fill_copy xs _ _ List.length_replicate]); repeat' (first | (with_reducible first | refine c_split ?_ ?_ | refine w_split ?_ ?_) <;> intro hb <;> try simp only [go_sem, hb, hA, e4, fill_0, fill_copy xs _ _ List.length_replicate] | fail)
      refine hQO [0] _ _ (GC.now ?_) <;> simp only [Tryz.f137, go_sem, List.nodup_cons, List.nodup_nil, List.mem_cons, List.not_mem_nil, or_false, not_false_eq_true, List.idxOf?_cons, List.idxOf?_nil, Option.map_none]
      exact hk
    have hi := lt_len hb
    have hw := wrap_nat i (by omega)
    have hil : (i : Int) < ((xs.length : Nat) : Int) := Int.ofNat_lt.2 hi
    have hg0 : (xs)[i]? = some ((xs)[i]) := List.getElem?_eq_getElem (by omega)
    simp only [go_sem, hb, hA, e4, fill_0, hg0]
    try simp only [go_sem, hA, e4, fill_0, hil, hg0]
    have hold := fill_get (fun j => xs[j]?.getD (⟨0, 0, 0, 0, 0, 0, 0, 0⟩ : Trade)) (List.replicate xs.length ⟨0, 0, 0, 0, 0, 0, 0, 0⟩) i
    rw [List.getElem?_replicate, if_pos hi] at hold
    have hset := fill_set (fun j => xs[j]?.getD (⟨0, 0, 0, 0, 0, 0, 0, 0⟩ : Trade)) (List.replicate xs.length ⟨0, 0, 0, 0, 0, 0, 0, 0⟩) i (by simpa using hi) xs[i] (by rw [hg0]; rfl)
    (try simp only [go_sem, hA, e4, fill_0, hil, hg0, hold]); repeat' (first | (with_reducible first | refine c_split ?_ ?_ | refine w_split ?_ ?_) <;> intro hb <;> try simp only [go_sem, hb, hA, e4, fill_0, hil, hg0, hold] | refine call_c (c_toTrade _ _ ?_) <;> try simp only [go_sem, hA, e4, fill_0, hil, hg0, hold] | fail)
    refine gc_trim 1 (by decide) (by simp only [go_sem]) (by simp only [go_sem]) (hJ _ _ hi (by simp only [go_sem, hA, e4, fill_0]) ⟨?_, ?_⟩) <;> try simp only [go_sem, hA, e4, fill_0, hw, hset]
theorem c_szTradeS (xs : List Trade) (left : Int) (hn : xs.length ≤ 1000000000000000) (h0 : 0 ≤ left) (h1 : left ≤ 1048576) (K : AV → AH → Prop) (hk : ∀ r, (0 ≤ r → r = left - xs.length) → K (.one (.c (.int .i64 (r)))) []) : ACalls Tryz.prog 132 [(.one (.im (xs.map tradeC))), (.one (.c (.int .i64 (left))))] [] K := by
  refine acall_c Tryz.f132.results.toList mixed Tryz.func132 rfl rfl (by kernel_rfl) ?_
  intro Q hQ hQO
  simp only [go_sem]
  (try simp only [go_sem]); repeat' (first | (with_reducible first | refine c_split ?_ ?_ | refine w_split ?_ ?_) <;> intro hb <;> try simp only [go_sem, hb] | with_reducible refine hQ _ _ ?_ <;> simp only [Tryz.f132, go_sem])
  · exact hk _ (by intro q; omega)
  · exact hk _ (by intro q; unfold wrap64; omega)
theorem c_eqTrade (x : Trade) (K : AV → AH → Prop) (hk : K (.one (.c (.bool (true)))) []) : ACalls Tryz.prog 202 [.agg (tradeC x), .agg (tradeC x)] [] K := by
  refine acall_c Tryz.f202.results.toList mixed Tryz.func202 rfl rfl (by kernel_rfl) ?_
  intro Q hQ hQO
  simp only [go_sem, BEq.rfl]
  (try simp only [go_sem, BEq.rfl]); repeat' (first | (with_reducible first | refine c_split ?_ ?_ | refine w_split ?_ ?_) <;> intro hb <;> try simp only [go_sem, hb, BEq.rfl] | with_reducible refine hQ _ _ ?_ <;> simp only [Tryz.f202, go_sem, BEq.rfl])
  exact hk
theorem c_eqTradeS (xs : List Trade) (hn : xs.length ≤ 1000000000) (K : AV → AH → Prop) (hk : K (.one (.c (.bool (true)))) []) : ACalls Tryz.prog 117 [(.one (.im (xs.map tradeC))), (.one (.im (xs.map tradeC)))] [] K := by
  refine acall_c Tryz.f117.results.toList mixed Tryz.func117 rfl rfl (by kernel_rfl) ?_
  intro Q hQ hQO
  simp only [go_sem, BEq.rfl]
  refine for_at (xs.length) [0, 1] (fun i f h => f 5 = (.one (.c (.int .i64 (i)))) ∧ h = []) (GC.now ?_) ?_
  · simp only [go_sem, nc_0, true_and, BEq.rfl]
  · rintro i f h J hi hA ⟨e5, rfl⟩ hJ
    simp only [go_sem, BEq.rfl] at hA
    simp only [go_sem, hA, e5, BEq.rfl]
    refine c_split (fun hb => ?_) (fun hb => ?_)
    rotate_left
    · simp only [go_sem, hb, hA, e5, BEq.rfl]
      obtain rfl := ge_len hb hi
      (try simp only [go_sem, hA, e5, BEq.rfl]); repeat' (first | (with_reducible first | refine c_split ?_ ?_ | refine w_split ?_ ?_ | refine tw_split ?_ ?_) <;> intro hb <;> try simp only [go_sem, hb, hA, e5, BEq.rfl] | with_reducible refine d117_0_LRec (by with_unfolding_all rfl) (by kernel_rfl) ?_ <;> try simp only [go_sem, hA, e5, BEq.rfl] | with_reducible refine hQ _ _ ?_ <;> simp only [Tryz.f117, go_sem, hA, e5, BEq.rfl])
      exact hk
    have hi := lt_len hb
    have hw := wrap_nat i (by omega)
    have hil : (i : Int) < ((xs.length : Nat) : Int) := Int.ofNat_lt.2 hi
    have hg0 : (xs)[i]? = some ((xs)[i]) := List.getElem?_eq_getElem (by omega)
    simp only [go_sem, hb, hA, e5, BEq.rfl, hg0]
    try simp only [go_sem, hA, e5, BEq.rfl, hil, hg0]
    (try simp only [go_sem, hA, e5, BEq.rfl, hil, hg0]); repeat' (first | (with_reducible first | refine c_split ?_ ?_ | refine w_split ?_ ?_ | refine tw_split ?_ ?_) <;> intro hb <;> try simp only [go_sem, hb, hA, e5, BEq.rfl, hil, hg0] | (first | with_reducible refine d117_0_LRec (by with_unfolding_all rfl) (by kernel_rfl) ?_ | refine call_c (c_eqTrade _ _ ?_) | fail) <;> try simp only [go_sem, hA, e5, BEq.rfl, hil, hg0] | fail)
    refine GC.now (hJ _ _ hi (by simp only [go_sem, hA, e5, BEq.rfl]) ⟨?_, ?_⟩) <;> try simp only [go_sem, hA, e5, BEq.rfl, hw]
structure Books where
  accounts : List Account
  instrs : List Account
  bals : List Bal
  lots : List Lot
  trades : List Trade
  lot : Int
def booksC (b : Books) : List CV := [.im (b.accounts.map accountC), .im (b.instrs.map accountC), .im (b.bals.map balC), .im (b.lots.map lotC), .im (b.trades.map tradeC), .c (.int .i64 (b.lot))]
end Go.Proofs.YtlefjpbhbiajfaaGreat
end
section
namespace Go.Proofs.YtlefjpbhbiajfaaGreat
open Go.BL Go.RowKit
set_option linter.unusedVariables false
set_option linter.unusedSimpArgs false
set_option maxRecDepth 100000
theorem d189_0_LBooks1 : DrawL Tryz.prog 0 12 (.on [(0, false, true), (1, false, true), (2, false, true), (3, false, true), (4, false, true), (5, false, true), (6, false, true), (7, false, true), (8, false, true), (9, false, true), (10, false, true), (11, false, true), (12, false, true), (13, false, true), (14, true, true), (15, true, true), (16, true, true), (17, true, true), (18, true, true), (19, true, true), (20, false, false), (21, false, false), (22, false, true), (23, false, true), (24, false, true)] .nil) := draw_L
theorem d180_0_LBooks1 : DrawL Tryz.prog 0 13 (.on [(0, true, true), (1, false, true), (2, false, true), (3, false, true), (4, false, true), (5, false, true), (6, false, true), (7, false, true), (8, true, true), (9, false, true), (10, false, true), (11, false, true), (12, false, true), (13, false, true), (14, false, true), (15, false, true), (16, false, true), (17, false, true), (18, false, true), (19, false, true), (20, true, true), (21, true, true), (22, true, true), (23, true, true), (24, true, true), (25, true, true), (26, true, false), (27, false, false), (28, false, false), (29, false, false), (30, false, false), (31, false, true), (32, false, true), (33, false, true)] .nil) := draw_L
theorem d190_0_LBooks1 : DrawL Tryz.prog 0 12 (.on [(0, false, true), (1, false, true), (2, false, true), (3, false, true), (4, false, true), (5, false, true), (6, false, true), (7, false, true), (8, false, true), (9, false, true), (10, false, true), (11, false, true), (12, false, true), (13, false, true), (14, true, true), (15, true, true), (16, true, true), (17, true, true), (18, true, true), (19, true, true), (20, false, false), (21, false, false), (22, false, true), (23, false, true), (24, false, true)] .nil) := draw_L
theorem d181_0_LBooks1 : DrawL Tryz.prog 0 13 (.on [(0, true, true), (1, false, true), (2, false, true), (3, false, true), (4, false, true), (5, false, true), (6, false, true), (7, false, true), (8, true, true), (9, false, true), (10, false, true), (11, false, true), (12, false, true), (13, false, true), (14, false, true), (15, false, true), (16, false, true), (17, false, true), (18, false, true), (19, false, true), (20, true, true), (21, true, true), (22, true, true), (23, true, true), (24, true, true), (25, true, true), (26, true, false), (27, false, false), (28, false, false), (29, false, false), (30, false, false), (31, false, true), (32, false, true), (33, false, true)] .nil) := draw_L
theorem d191_0_LBooks1 : DrawL Tryz.prog 0 33 (.on [(0, false, true), (1, false, true), (2, false, true), (3, true, true), (4, true, true), (5, true, true), (6, true, true), (7, true, true), (8, true, true), (9, true, false), (10, true, false), (11, true, false), (12, true, false), (13, true, false), (14, true, false), (15, true, false), (16, true, false), (17, false, false), (18, false, false), (19, false, true), (20, false, true), (21, false, true)] .nil) := draw_L
theorem d182_0_LBooks1 : DrawL Tryz.prog 0 18 (.on [(0, false, true), (1, false, true), (2, false, true), (3, false, true), (4, false, true), (5, false, true), (6, false, true), (7, false, true), (8, false, true), (9, false, true), (10, false, true), (11, false, true), (12, false, true), (13, false, true), (14, false, true), (15, false, true), (16, false, true), (17, false, true), (18, false, true), (19, false, true), (20, false, true), (21, false, true), (22, false, true), (23, false, true), (24, false, true), (25, true, true), (26, true, true), (27, true, true), (28, true, true), (29, true, true), (30, true, true), (31, true, false), (32, true, false), (33, true, false), (34, true, false), (35, true, false), (36, true, false), (37, true, false), (38, true, false), (39, false, false), (40, false, false), (41, false, true), (42, false, true), (43, false, true), (44, false, true)] .nil) := draw_L
attribute [local go_sem] accountC balC lotC tradeC
def noOk (n : Int) : Bool := decide (1 ≤ n ∧ n ≤ 1000)
def amtOk (n : Int) : Bool := decide (-1000000000000000 ≤ n ∧ n ≤ 1000000000000000)
def allTo (p : Nat → Bool) : Nat → Bool
  | 0 => true
  | n + 1 => allTo p n && p n
theorem allTo_false {p : Nat → Bool} {i : Nat} (h : p i = false) : ∀ n, i < n → allTo p n = false
  | 0, hn => absurd hn (Nat.not_lt_zero i)
  | n + 1, hn => by
    rw [allTo]
    by_cases e : i = n
    · subst e; rw [h, Bool.and_false]
    · rw [allTo_false h n (by omega), Bool.false_and]
theorem allTo_at {p : Nat → Bool} : ∀ {n : Nat}, allTo p n = true → ∀ i, i < n → p i = true
  | 0, _, i, hi => absurd hi (Nat.not_lt_zero i)
  | n + 1, h, i, hi => by
    rw [allTo, Bool.and_eq_true] at h
    by_cases e : i = n
    · subst e; exact h.2
    · exact allTo_at h.1 i (by omega)
theorem c_isNo (n : Int) (K : AV → AH → Prop) (hk : K (.one (.c (.bool (noOk n)))) []) : ACalls Tryz.prog 245 [(.one (.c (.int .i64 (n))))] [] K := by
  refine acall_c Tryz.f245.results.toList mixed Tryz.func245 rfl rfl (by kernel_rfl) ?_
  intro Q hQ hQO
  simp only [go_sem]
  (try simp only [go_sem]); repeat' (first | (with_reducible first | refine c_split ?_ ?_ | refine w_split ?_ ?_) <;> intro hb <;> try simp only [go_sem, hb] | refine call_c (c_in _ _ _ _ ?_) <;> try simp only [go_sem] | with_reducible refine hQ _ _ ?_ <;> simp only [Tryz.f245, go_sem])
  exact hk
theorem c_l3No (n : Int) (K : AV → AH → Prop) (hk : K (.one (.c (.bool (noOk n)))) []) : ACalls Tryz.prog 235 [(.one (.c (.int .i64 (n))))] [] K := by
  refine acall_c Tryz.f235.results.toList mixed Tryz.func235 rfl rfl (by kernel_rfl) ?_
  intro Q hQ hQO
  simp only [go_sem]
  (try simp only [go_sem]); repeat' (first | (with_reducible first | refine c_split ?_ ?_ | refine w_split ?_ ?_) <;> intro hb <;> try simp only [go_sem, hb] | refine call_c (c_l1In _ _ _ _ ?_) <;> try simp only [go_sem] | with_reducible refine hQ _ _ ?_ <;> simp only [Tryz.f235, go_sem])
  exact hk
theorem c_impl_AmountOk (n : Int) (K : AV → AH → Prop) (hk : K (.one (.c (.bool (amtOk n)))) []) : ACalls Tryz.prog 246 [(.one (.c (.int .i64 (n))))] [] K := by
  refine acall_c Tryz.f246.results.toList mixed Tryz.func246 rfl rfl (by kernel_rfl) ?_
  intro Q hQ hQO
  simp only [go_sem]
  (try simp only [go_sem]); repeat' (first | (with_reducible first | refine c_split ?_ ?_ | refine w_split ?_ ?_) <;> intro hb <;> try simp only [go_sem, hb] | refine call_c (c_in _ _ _ _ ?_) <;> try simp only [go_sem] | with_reducible refine hQ _ _ ?_ <;> simp only [Tryz.f246, go_sem])
  exact hk
theorem c_spec_AmountOk (n : Int) (K : AV → AH → Prop) (hk : K (.one (.c (.bool (amtOk n)))) []) : ACalls Tryz.prog 236 [(.one (.c (.int .i64 (n))))] [] K := by
  refine acall_c Tryz.f236.results.toList mixed Tryz.func236 rfl rfl (by kernel_rfl) ?_
  intro Q hQ hQO
  simp only [go_sem]
  (try simp only [go_sem]); repeat' (first | (with_reducible first | refine c_split ?_ ?_ | refine w_split ?_ ?_) <;> intro hb <;> try simp only [go_sem, hb] | refine call_c (c_l1In _ _ _ _ ?_) <;> try simp only [go_sem] | with_reducible refine hQ _ _ ?_ <;> simp only [Tryz.f236, go_sem])
  exact hk
theorem c_l1Some (n lo : Int) (K : AV → AH → Prop) (hk : K (.one (.c (.bool (decide (lo ≤ n ∧ n ≤ 1000000000000000))))) []) : ACalls Tryz.prog 240 [(.one (.c (.int .i64 (n)))), (.one (.c (.int .i64 (lo))))] [] K := by
  refine acall_c Tryz.f240.results.toList mixed Tryz.func240 rfl rfl (by kernel_rfl) ?_
  intro Q hQ hQO
  simp only [go_sem]
  (try simp only [go_sem]); repeat' (first | (with_reducible first | refine c_split ?_ ?_ | refine w_split ?_ ?_) <;> intro hb <;> try simp only [go_sem, hb] | refine call_c (c_l1In _ _ _ _ ?_) <;> try simp only [go_sem] | with_reducible refine hQ _ _ ?_ <;> simp only [Tryz.f240, go_sem])
  exact hk
def upAt {α : Type} (key : α → Int) (xs : List α) (i : Nat) (x : α) : Bool := match i with
  | 0 => true
  | j + 1 => match xs[j]? with
    | some y => decide (key y < key x)
    | none => true
theorem not_tt {b : Bool} (h : (!b) = true) : b = false := by simpa using h
def rowG {α : Type} (p : α → Bool) (lt : α → α → Bool) (xs : List α) (i : Nat) : Bool := match xs[i]? with
  | some x => p x && (match i with | 0 => true | j + 1 => match xs[j]? with | some y => lt y x | none => false)
  | none => false
theorem rowG_0 {α : Type} {p : α → Bool} {lt : α → α → Bool} {xs : List α} (hi : 0 < xs.length) : rowG p lt xs 0 = p xs[0] := by simp [rowG, hi]
theorem rowG_s {α : Type} {p : α → Bool} {lt : α → α → Bool} {xs : List α} {j : Nat} (hi : j + 1 < xs.length) : rowG p lt xs (j + 1) = (p xs[j + 1] && lt xs[j] xs[j + 1]) := by
  have : j < xs.length := by omega
  simp [rowG, hi, this]
theorem allTo_s {p : Nat → Bool} {i : Nat} (h : allTo p i = true) (hi : p i = true) : allTo p (i + 1) = true := by rw [allTo, h, hi]; rfl
def okL {α : Type} (p : α → Bool) (lt : α → α → Bool) (m : Int) (xs : List α) : Bool := allTo (rowG p lt xs) xs.length && decide ((xs.length : Int) ≤ m)
theorem okL_no {α : Type} {p : α → Bool} {lt : α → α → Bool} {m : Int} {xs : List α} {i : Nat} (h : rowG p lt xs i = false) (hi : i < xs.length) : okL p lt m xs = false := by rw [okL, allTo_false h _ hi, Bool.false_and]
theorem okL_long {α : Type} {p : α → Bool} {lt : α → α → Bool} {m : Int} {xs : List α} (h : m < xs.length) : okL p lt m xs = false := by rw [okL, decide_eq_false (by omega), Bool.and_false]
theorem okL_len {α : Type} {p : α → Bool} {lt : α → α → Bool} {m : Int} {xs : List α} (h : okL p lt m xs = true) : (xs.length : Int) ≤ m := by
  rw [okL, Bool.and_eq_true] at h; exact of_decide_eq_true h.2
theorem okL_p {α : Type} {p : α → Bool} {lt : α → α → Bool} {m : Int} {xs : List α} (h : okL p lt m xs = true) {x : α} (hx : x ∈ xs) : p x = true := by
  rw [okL, Bool.and_eq_true] at h
  obtain ⟨i, hi, rfl⟩ := List.mem_iff_getElem.1 hx
  have := allTo_at h.1 i hi
  rcases i with _ | j
  · rwa [rowG_0 hi] at this
  · rw [rowG_s hi, Bool.and_eq_true] at this; exact this.1
theorem okL_lt {α : Type} {p : α → Bool} {lt : α → α → Bool} {m : Int} {xs : List α} (h : okL p lt m xs = true) {j : Nat} (hj : j + 1 < xs.length) : lt xs[j] xs[j + 1] = true := by
  rw [okL, Bool.and_eq_true] at h
  have := allTo_at h.1 (j + 1) hj
  rw [rowG_s hj, Bool.and_eq_true] at this; exact this.2
def accP (x : Account) : Bool := noOk x.no && decide (1 ≤ x.kind ∧ x.kind ≤ 4)
def accLt (y x : Account) : Bool := decide (y.no < x.no)
def accountsOk (xs : List Account) : Bool := okL accP accLt 20 xs
theorem accLt_f {y x : Account} (h : accLt y x = true) : decide (x.no ≤ y.no) = false := by have := of_decide_eq_true h; exact decide_eq_false (by omega)
def insP (x : Account) : Bool := noOk x.no && decide (1 ≤ x.kind ∧ x.kind ≤ 2)
def insLt (y x : Account) : Bool := decide (y.no < x.no)
def instrsOk (xs : List Account) : Bool := okL insP insLt 8 xs
theorem insLt_f {y x : Account} (h : insLt y x = true) : decide (x.no ≤ y.no) = false := by have := of_decide_eq_true h; exact decide_eq_false (by omega)
set_option maxHeartbeats 2000000 in
theorem c_impl_AccountsOk (xs : List Account) (hn : xs.length ≤ 1000000000) (K : AV → AH → Prop) (hk : K (.one (.c (.bool (accountsOk xs)))) []) : ACalls Tryz.prog 189 [(.one (.im (xs.map accountC)))] [] K := by
  refine acall_c Tryz.f189.results.toList mixed Tryz.func189 rfl rfl (by kernel_rfl) ?_
  intro Q hQ hQO
  simp only [go_sem]
  refine for_at (xs.length) [0, 5, 6] (fun i f h => f 7 = (.one (.c (.int .i64 (i)))) ∧ h = [] ∧ allTo (rowG accP accLt xs) i = true) (GC.now ?_) ?_
  · simp only [go_sem, nc_0, true_and]
    rfl
  · rintro i f h J hi hA ⟨e7, rfl, hP⟩ hJ
    simp only [go_sem] at hA
    simp only [go_sem, hA, e7]
    refine c_split (fun hb => ?_) (fun hb => ?_)
    rotate_left
    · simp only [go_sem, hb, hA, e7]
      obtain rfl := ge_len hb hi
      (try simp only [go_sem, hA, e7]); repeat' (first | (with_reducible first | refine c_split ?_ ?_ | refine w_split ?_ ?_ | refine tw_split ?_ ?_) <;> intro hb <;> try simp only [go_sem, hb, hA, e7] | with_reducible refine d189_0_LBooks1 (by with_unfolding_all rfl) (by kernel_rfl) ?_ <;> try simp only [go_sem, hA, e7] | with_reducible refine hQ _ _ ?_ <;> simp only [Tryz.f189, go_sem, hA, e7])
      exact kB hk (by rw [accountsOk, okL, hP, Bool.true_and])
    have hi := lt_len hb
    have hw := wrap_nat i (by omega)
    have hil : (i : Int) < ((xs.length : Nat) : Int) := Int.ofNat_lt.2 hi
    have hg0 : (xs)[i]? = some ((xs)[i]) := List.getElem?_eq_getElem (by omega)
    simp only [go_sem, hb, hA, e7, hg0]
    try simp only [go_sem, hA, e7, hil, hg0]
    cases hr : rowG accP accLt xs i with
    | true =>
      have hall := allTo_s hP hr
      rcases i with _ | j
      · have g0 : decide ((0 : Int) < ((0 : Nat) : Int)) = false := by decide
        rw [rowG_0 hi] at hr
        simp only [accP, Bool.and_eq_true] at hr
        obtain ⟨f0, f1⟩ := hr
        (try simp only [go_sem, hA, e7, hil, hg0, g0, f0, f1]); repeat' (first | (with_reducible first | refine c_split ?_ ?_ | refine w_split ?_ ?_ | refine tw_split ?_ ?_) <;> intro hb <;> try simp only [go_sem, hb, hA, e7, hil, hg0, g0, f0, f1] | (first | with_reducible refine d189_0_LBooks1 (by with_unfolding_all rfl) (by kernel_rfl) ?_ | refine call_c (c_isNo _ _ ?_) | refine call_c (c_in _ _ _ _ ?_) | fail) <;> try simp only [go_sem, hA, e7, hil, hg0, g0, f0, f1] | fail)
        refine gc_trim 0 (by decide) (by simp only [go_sem]) (by simp only [go_sem]) (hJ _ _ hi (by simp only [go_sem, hA, e7]) ⟨?_, ?_, ?_⟩) <;> try simp only [go_sem, hA, e7, hw]
        exact hall
      · have hj : j < xs.length := by omega
        have hgj : xs[j]? = some xs[j] := List.getElem?_eq_getElem hj
        have g1 : decide ((0 : Int) < ((j + 1 : Nat) : Int)) = true := decide_eq_true (by omega)
        have g2 : wrap64 (((j + 1 : Nat) : Int) - 1) = (j : Int) := by unfold wrap64; omega
        rw [rowG_s hi, Bool.and_eq_true] at hr
        obtain ⟨hr, hlt⟩ := hr
        simp only [accP, Bool.and_eq_true] at hr
        obtain ⟨f0, f1⟩ := hr
        have hlt2 := accLt_f hlt
        (try simp only [go_sem, hA, e7, hil, hg0, g1, g2, hgj, hlt2, f0, f1]); repeat' (first | (with_reducible first | refine c_split ?_ ?_ | refine w_split ?_ ?_ | refine tw_split ?_ ?_) <;> intro hb <;> try simp only [go_sem, hb, hA, e7, hil, hg0, g1, g2, hgj, hlt2, f0, f1] | (first | with_reducible refine d189_0_LBooks1 (by with_unfolding_all rfl) (by kernel_rfl) ?_ | refine call_c (c_isNo _ _ ?_) | refine call_c (c_in _ _ _ _ ?_) | fail) <;> try simp only [go_sem, hA, e7, hil, hg0, g1, g2, hgj, hlt2, f0, f1] | fail)
        refine gc_trim 0 (by decide) (by simp only [go_sem]) (by simp only [go_sem]) (hJ _ _ hi (by simp only [go_sem, hA, e7]) ⟨?_, ?_, ?_⟩) <;> try simp only [go_sem, hA, e7, hw]
        exact hall
    | false =>
      rw [accountsOk, okL_no hr hi] at hk
      rcases i with _ | j
      · have g0 : decide ((0 : Int) < ((0 : Nat) : Int)) = false := by decide
        rw [rowG_0 hi] at hr
        (try simp only [go_sem, hA, e7, hil, hg0, g0]); repeat' (first | (with_reducible first | refine c_split ?_ ?_ | refine w_split ?_ ?_ | refine tw_split ?_ ?_) <;> intro hb <;> try simp only [go_sem, hb, hA, e7, hil, hg0, g0] | (first | with_reducible refine d189_0_LBooks1 (by with_unfolding_all rfl) (by kernel_rfl) ?_ | refine call_c (c_isNo _ _ ?_) | refine call_c (c_in _ _ _ _ ?_) | fail) <;> try simp only [go_sem, hA, e7, hil, hg0, g0] | with_reducible refine hQ _ _ ?_ <;> simp only [Tryz.f189, go_sem, hA, e7, hil, hg0, g0])
        all_goals first | exact hk | exact (Bool.eq_false_iff.1 hr (by clear hr hJ hA hQ hQO; simp only [accP]; simp_all <;> omega)).elim
      · have hj : j < xs.length := by omega
        have hgj : xs[j]? = some xs[j] := List.getElem?_eq_getElem hj
        have g1 : decide ((0 : Int) < ((j + 1 : Nat) : Int)) = true := decide_eq_true (by omega)
        have g2 : wrap64 (((j + 1 : Nat) : Int) - 1) = (j : Int) := by unfold wrap64; omega
        rw [rowG_s hi] at hr
        (try simp only [go_sem, hA, e7, hil, hg0, g1, g2, hgj]); repeat' (first | (with_reducible first | refine c_split ?_ ?_ | refine w_split ?_ ?_ | refine tw_split ?_ ?_) <;> intro hb <;> try simp only [go_sem, hb, hA, e7, hil, hg0, g1, g2, hgj] | (first | with_reducible refine d189_0_LBooks1 (by with_unfolding_all rfl) (by kernel_rfl) ?_ | refine call_c (c_isNo _ _ ?_) | refine call_c (c_in _ _ _ _ ?_) | fail) <;> try simp only [go_sem, hA, e7, hil, hg0, g1, g2, hgj] | with_reducible refine hQ _ _ ?_ <;> simp only [Tryz.f189, go_sem, hA, e7, hil, hg0, g1, g2, hgj])
        all_goals first | exact hk | exact (Bool.eq_false_iff.1 hr (by clear hr hJ hA hQ hQO; simp only [accP, accLt]; simp_all <;> omega)).elim
set_option maxHeartbeats 2000000 in
theorem c_spec_AccountsOk (xs : List Account) (hn : xs.length ≤ 1000000000) (K : AV → AH → Prop) (hk : K (.one (.c (.bool (accountsOk xs)))) []) : ACalls Tryz.prog 180 [(.one (.im (xs.map accountC)))] [] K := by
  refine acall_c Tryz.f180.results.toList mixed Tryz.func180 rfl rfl (by kernel_rfl) ?_
  intro Q hQ hQO
  simp only [go_sem]
  (try simp only [go_sem]); repeat' (first | (with_reducible first | refine c_split ?_ ?_ | refine w_split ?_ ?_ | refine tw_split ?_ ?_) <;> intro hb <;> try simp only [go_sem, hb] | with_reducible refine d180_0_LBooks1 (by with_unfolding_all rfl) (by kernel_rfl) ?_ <;> try simp only [go_sem] | fail)
  · rw [accountsOk, okL_long (of_decide_eq_true hb)] at hk
    (try simp only [go_sem]); repeat' (first | (with_reducible first | refine c_split ?_ ?_ | refine w_split ?_ ?_ | refine tw_split ?_ ?_) <;> intro hb <;> try simp only [go_sem, hb] | with_reducible refine d180_0_LBooks1 (by with_unfolding_all rfl) (by kernel_rfl) ?_ <;> try simp only [go_sem] | with_reducible refine hQ _ _ ?_ <;> simp only [Tryz.f180, go_sem])
    exact hk
  · have hlen := of_decide_eq_false hb
    refine for_at (xs.length) [0] (fun i f h => f 3 = (.one (.c (.int .i64 (i)))) ∧ h = [] ∧ allTo (rowG accP accLt xs) i = true) (GC.now ?_) ?_
    · simp only [go_sem, nc_0, true_and]
      rfl
    · rintro i f h J hi hA ⟨e3, rfl, hP⟩ hJ
      simp only [go_sem] at hA
      simp only [go_sem, hA, e3]
      refine c_split (fun hb => ?_) (fun hb => ?_)
      rotate_left
      · simp only [go_sem, hb, hA, e3]
        obtain rfl := ge_len hb hi
        (try simp only [go_sem, hA, e3]); repeat' (first | (with_reducible first | refine c_split ?_ ?_ | refine w_split ?_ ?_ | refine tw_split ?_ ?_) <;> intro hb <;> try simp only [go_sem, hb, hA, e3] | with_reducible refine d180_0_LBooks1 (by with_unfolding_all rfl) (by kernel_rfl) ?_ <;> try simp only [go_sem, hA, e3] | with_reducible refine hQ _ _ ?_ <;> simp only [Tryz.f180, go_sem, hA, e3])
        exact kB hk (by rw [accountsOk, okL, hP, Bool.true_and, decide_eq_true (by omega)])
      have hi := lt_len hb
      have hw := wrap_nat i (by omega)
      have hil : (i : Int) < ((xs.length : Nat) : Int) := Int.ofNat_lt.2 hi
      have hg0 : (xs)[i]? = some ((xs)[i]) := List.getElem?_eq_getElem (by omega)
      simp only [go_sem, hb, hA, e3, hg0]
      try simp only [go_sem, hA, e3, hil, hg0]
      cases hr : rowG accP accLt xs i with
      | true =>
        have hall := allTo_s hP hr
        rcases i with _ | j
        · have g0 : decide ((0 : Int) < ((0 : Nat) : Int)) = false := by decide
          rw [rowG_0 hi] at hr
          simp only [accP, Bool.and_eq_true] at hr
          obtain ⟨f0, f1⟩ := hr
          (try simp only [go_sem, hA, e3, hil, hg0, g0, f0, f1]); repeat' (first | (with_reducible first | refine c_split ?_ ?_ | refine w_split ?_ ?_ | refine tw_split ?_ ?_) <;> intro hb <;> try simp only [go_sem, hb, hA, e3, hil, hg0, g0, f0, f1] | (first | with_reducible refine d180_0_LBooks1 (by with_unfolding_all rfl) (by kernel_rfl) ?_ | refine call_c (c_l3No _ _ ?_) | refine call_c (c_l1In _ _ _ _ ?_) | fail) <;> try simp only [go_sem, hA, e3, hil, hg0, g0, f0, f1] | fail)
          refine gc_trim 0 (by decide) (by simp only [go_sem]) (by simp only [go_sem]) (hJ _ _ hi (by simp only [go_sem, hA, e3]) ⟨?_, ?_, ?_⟩) <;> try simp only [go_sem, hA, e3, hw]
          exact hall
        · have hj : j < xs.length := by omega
          have hgj : xs[j]? = some xs[j] := List.getElem?_eq_getElem hj
          have g1 : decide ((0 : Int) < ((j + 1 : Nat) : Int)) = true := decide_eq_true (by omega)
          have g2 : wrap64 (((j + 1 : Nat) : Int) - 1) = (j : Int) := by unfold wrap64; omega
          rw [rowG_s hi, Bool.and_eq_true] at hr
          obtain ⟨hr, hlt⟩ := hr
          simp only [accP, Bool.and_eq_true] at hr
          obtain ⟨f0, f1⟩ := hr
          have hlt2 := accLt_f hlt
          (try simp only [go_sem, hA, e3, hil, hg0, g1, g2, hgj, hlt2, f0, f1]); repeat' (first | (with_reducible first | refine c_split ?_ ?_ | refine w_split ?_ ?_ | refine tw_split ?_ ?_) <;> intro hb <;> try simp only [go_sem, hb, hA, e3, hil, hg0, g1, g2, hgj, hlt2, f0, f1] | (first | with_reducible refine d180_0_LBooks1 (by with_unfolding_all rfl) (by kernel_rfl) ?_ | refine call_c (c_l3No _ _ ?_) | refine call_c (c_l1In _ _ _ _ ?_) | fail) <;> try simp only [go_sem, hA, e3, hil, hg0, g1, g2, hgj, hlt2, f0, f1] | fail)
          refine gc_trim 0 (by decide) (by simp only [go_sem]) (by simp only [go_sem]) (hJ _ _ hi (by simp only [go_sem, hA, e3]) ⟨?_, ?_, ?_⟩) <;> try simp only [go_sem, hA, e3, hw]
          exact hall
      | false =>
        rw [accountsOk, okL_no hr hi] at hk
        rcases i with _ | j
        · have g0 : decide ((0 : Int) < ((0 : Nat) : Int)) = false := by decide
          rw [rowG_0 hi] at hr
          (try simp only [go_sem, hA, e3, hil, hg0, g0]); repeat' (first | (with_reducible first | refine c_split ?_ ?_ | refine w_split ?_ ?_ | refine tw_split ?_ ?_) <;> intro hb <;> try simp only [go_sem, hb, hA, e3, hil, hg0, g0] | (first | with_reducible refine d180_0_LBooks1 (by with_unfolding_all rfl) (by kernel_rfl) ?_ | refine call_c (c_l3No _ _ ?_) | refine call_c (c_l1In _ _ _ _ ?_) | fail) <;> try simp only [go_sem, hA, e3, hil, hg0, g0] | with_reducible refine hQ _ _ ?_ <;> simp only [Tryz.f180, go_sem, hA, e3, hil, hg0, g0])
          all_goals first | exact hk | exact (Bool.eq_false_iff.1 hr (by clear hr hJ hA hQ hQO; simp only [accP]; simp_all <;> omega)).elim
        · have hj : j < xs.length := by omega
          have hgj : xs[j]? = some xs[j] := List.getElem?_eq_getElem hj
          have g1 : decide ((0 : Int) < ((j + 1 : Nat) : Int)) = true := decide_eq_true (by omega)
          have g2 : wrap64 (((j + 1 : Nat) : Int) - 1) = (j : Int) := by unfold wrap64; omega
          rw [rowG_s hi] at hr
          (try simp only [go_sem, hA, e3, hil, hg0, g1, g2, hgj]); repeat' (first | (with_reducible first | refine c_split ?_ ?_ | refine w_split ?_ ?_ | refine tw_split ?_ ?_) <;> intro hb <;> try simp only [go_sem, hb, hA, e3, hil, hg0, g1, g2, hgj] | (first | with_reducible refine d180_0_LBooks1 (by with_unfolding_all rfl) (by kernel_rfl) ?_ | refine call_c (c_l3No _ _ ?_) | refine call_c (c_l1In _ _ _ _ ?_) | fail) <;> try simp only [go_sem, hA, e3, hil, hg0, g1, g2, hgj] | with_reducible refine hQ _ _ ?_ <;> simp only [Tryz.f180, go_sem, hA, e3, hil, hg0, g1, g2, hgj])
          all_goals first | exact hk | exact (Bool.eq_false_iff.1 hr (by clear hr hJ hA hQ hQO; simp only [accP, accLt]; simp_all <;> omega)).elim
set_option maxHeartbeats 2000000 in
theorem c_impl_InstrsOk (xs : List Account) (hn : xs.length ≤ 1000000000) (K : AV → AH → Prop) (hk : K (.one (.c (.bool (instrsOk xs)))) []) : ACalls Tryz.prog 190 [(.one (.im (xs.map accountC)))] [] K := by
  refine acall_c Tryz.f190.results.toList mixed Tryz.func190 rfl rfl (by kernel_rfl) ?_
  intro Q hQ hQO
  simp only [go_sem]
  refine for_at (xs.length) [0, 5, 6] (fun i f h => f 7 = (.one (.c (.int .i64 (i)))) ∧ h = [] ∧ allTo (rowG insP insLt xs) i = true) (GC.now ?_) ?_
  · simp only [go_sem, nc_0, true_and]
    rfl
  · rintro i f h J hi hA ⟨e7, rfl, hP⟩ hJ
    simp only [go_sem] at hA
    simp only [go_sem, hA, e7]
    refine c_split (fun hb => ?_) (fun hb => ?_)
    rotate_left
    · simp only [go_sem, hb, hA, e7]
      obtain rfl := ge_len hb hi
      (try simp only [go_sem, hA, e7]); repeat' (first | (with_reducible first | refine c_split ?_ ?_ | refine w_split ?_ ?_ | refine tw_split ?_ ?_) <;> intro hb <;> try simp only [go_sem, hb, hA, e7] | with_reducible refine d190_0_LBooks1 (by with_unfolding_all rfl) (by kernel_rfl) ?_ <;> try simp only [go_sem, hA, e7] | with_reducible refine hQ _ _ ?_ <;> simp only [Tryz.f190, go_sem, hA, e7])
      exact kB hk (by rw [instrsOk, okL, hP, Bool.true_and])
    have hi := lt_len hb
    have hw := wrap_nat i (by omega)
    have hil : (i : Int) < ((xs.length : Nat) : Int) := Int.ofNat_lt.2 hi
    have hg0 : (xs)[i]? = some ((xs)[i]) := List.getElem?_eq_getElem (by omega)
    simp only [go_sem, hb, hA, e7, hg0]
    try simp only [go_sem, hA, e7, hil, hg0]
    cases hr : rowG insP insLt xs i with
    | true =>
      have hall := allTo_s hP hr
      rcases i with _ | j
      · have g0 : decide ((0 : Int) < ((0 : Nat) : Int)) = false := by decide
        rw [rowG_0 hi] at hr
        simp only [insP, Bool.and_eq_true] at hr
        obtain ⟨f0, f1⟩ := hr
        (try simp only [go_sem, hA, e7, hil, hg0, g0, f0, f1]); repeat' (first | (with_reducible first | refine c_split ?_ ?_ | refine w_split ?_ ?_ | refine tw_split ?_ ?_) <;> intro hb <;> try simp only [go_sem, hb, hA, e7, hil, hg0, g0, f0, f1] | (first | with_reducible refine d190_0_LBooks1 (by with_unfolding_all rfl) (by kernel_rfl) ?_ | refine call_c (c_isNo _ _ ?_) | refine call_c (c_in _ _ _ _ ?_) | fail) <;> try simp only [go_sem, hA, e7, hil, hg0, g0, f0, f1] | fail)
        refine gc_trim 0 (by decide) (by simp only [go_sem]) (by simp only [go_sem]) (hJ _ _ hi (by simp only [go_sem, hA, e7]) ⟨?_, ?_, ?_⟩) <;> try simp only [go_sem, hA, e7, hw]
        exact hall
      · have hj : j < xs.length := by omega
        have hgj : xs[j]? = some xs[j] := List.getElem?_eq_getElem hj
        have g1 : decide ((0 : Int) < ((j + 1 : Nat) : Int)) = true := decide_eq_true (by omega)
        have g2 : wrap64 (((j + 1 : Nat) : Int) - 1) = (j : Int) := by unfold wrap64; omega
        rw [rowG_s hi, Bool.and_eq_true] at hr
        obtain ⟨hr, hlt⟩ := hr
        simp only [insP, Bool.and_eq_true] at hr
        obtain ⟨f0, f1⟩ := hr
        have hlt2 := insLt_f hlt
        (try simp only [go_sem, hA, e7, hil, hg0, g1, g2, hgj, hlt2, f0, f1]); repeat' (first | (with_reducible first | refine c_split ?_ ?_ | refine w_split ?_ ?_ | refine tw_split ?_ ?_) <;> intro hb <;> try simp only [go_sem, hb, hA, e7, hil, hg0, g1, g2, hgj, hlt2, f0, f1] | (first | with_reducible refine d190_0_LBooks1 (by with_unfolding_all rfl) (by kernel_rfl) ?_ | refine call_c (c_isNo _ _ ?_) | refine call_c (c_in _ _ _ _ ?_) | fail) <;> try simp only [go_sem, hA, e7, hil, hg0, g1, g2, hgj, hlt2, f0, f1] | fail)
        refine gc_trim 0 (by decide) (by simp only [go_sem]) (by simp only [go_sem]) (hJ _ _ hi (by simp only [go_sem, hA, e7]) ⟨?_, ?_, ?_⟩) <;> try simp only [go_sem, hA, e7, hw]
        exact hall
    | false =>
      rw [instrsOk, okL_no hr hi] at hk
      rcases i with _ | j
      · have g0 : decide ((0 : Int) < ((0 : Nat) : Int)) = false := by decide
        rw [rowG_0 hi] at hr
        (try simp only [go_sem, hA, e7, hil, hg0, g0]); repeat' (first | (with_reducible first | refine c_split ?_ ?_ | refine w_split ?_ ?_ | refine tw_split ?_ ?_) <;> intro hb <;> try simp only [go_sem, hb, hA, e7, hil, hg0, g0] | (first | with_reducible refine d190_0_LBooks1 (by with_unfolding_all rfl) (by kernel_rfl) ?_ | refine call_c (c_isNo _ _ ?_) | refine call_c (c_in _ _ _ _ ?_) | fail) <;> try simp only [go_sem, hA, e7, hil, hg0, g0] | with_reducible refine hQ _ _ ?_ <;> simp only [Tryz.f190, go_sem, hA, e7, hil, hg0, g0])
        all_goals first | exact hk | exact (Bool.eq_false_iff.1 hr (by clear hr hJ hA hQ hQO; simp only [insP]; simp_all <;> omega)).elim
      · have hj : j < xs.length := by omega
        have hgj : xs[j]? = some xs[j] := List.getElem?_eq_getElem hj
        have g1 : decide ((0 : Int) < ((j + 1 : Nat) : Int)) = true := decide_eq_true (by omega)
        have g2 : wrap64 (((j + 1 : Nat) : Int) - 1) = (j : Int) := by unfold wrap64; omega
        rw [rowG_s hi] at hr
        (try simp only [go_sem, hA, e7, hil, hg0, g1, g2, hgj]); repeat' (first | (with_reducible first | refine c_split ?_ ?_ | refine w_split ?_ ?_ | refine tw_split ?_ ?_) <;> intro hb <;> try simp only [go_sem, hb, hA, e7, hil, hg0, g1, g2, hgj] | (first | with_reducible refine d190_0_LBooks1 (by with_unfolding_all rfl) (by kernel_rfl) ?_ | refine call_c (c_isNo _ _ ?_) | refine call_c (c_in _ _ _ _ ?_) | fail) <;> try simp only [go_sem, hA, e7, hil, hg0, g1, g2, hgj] | with_reducible refine hQ _ _ ?_ <;> simp only [Tryz.f190, go_sem, hA, e7, hil, hg0, g1, g2, hgj])
        all_goals first | exact hk | exact (Bool.eq_false_iff.1 hr (by clear hr hJ hA hQ hQO; simp only [insP, insLt]; simp_all <;> omega)).elim
set_option maxHeartbeats 2000000 in
theorem c_spec_InstrsOk (xs : List Account) (hn : xs.length ≤ 1000000000) (K : AV → AH → Prop) (hk : K (.one (.c (.bool (instrsOk xs)))) []) : ACalls Tryz.prog 181 [(.one (.im (xs.map accountC)))] [] K := by
  refine acall_c Tryz.f181.results.toList mixed Tryz.func181 rfl rfl (by kernel_rfl) ?_
  intro Q hQ hQO
  simp only [go_sem]
  (try simp only [go_sem]); repeat' (first | (with_reducible first | refine c_split ?_ ?_ | refine w_split ?_ ?_ | refine tw_split ?_ ?_) <;> intro hb <;> try simp only [go_sem, hb] | with_reducible refine d181_0_LBooks1 (by with_unfolding_all rfl) (by kernel_rfl) ?_ <;> try simp only [go_sem] | fail)
  · rw [instrsOk, okL_long (of_decide_eq_true hb)] at hk
    (try simp only [go_sem]); repeat' (first | (with_reducible first | refine c_split ?_ ?_ | refine w_split ?_ ?_ | refine tw_split ?_ ?_) <;> intro hb <;> try simp only [go_sem, hb] | with_reducible refine d181_0_LBooks1 (by with_unfolding_all rfl) (by kernel_rfl) ?_ <;> try simp only [go_sem] | with_reducible refine hQ _ _ ?_ <;> simp only [Tryz.f181, go_sem])
    exact hk
  · have hlen := of_decide_eq_false hb
    refine for_at (xs.length) [0] (fun i f h => f 3 = (.one (.c (.int .i64 (i)))) ∧ h = [] ∧ allTo (rowG insP insLt xs) i = true) (GC.now ?_) ?_
    · simp only [go_sem, nc_0, true_and]
      rfl
    · rintro i f h J hi hA ⟨e3, rfl, hP⟩ hJ
      simp only [go_sem] at hA
      simp only [go_sem, hA, e3]
      refine c_split (fun hb => ?_) (fun hb => ?_)
      rotate_left
      · simp only [go_sem, hb, hA, e3]
        obtain rfl := ge_len hb hi
        (try simp only [go_sem, hA, e3]); repeat' (first | (with_reducible first | refine c_split ?_ ?_ | refine w_split ?_ ?_ | refine tw_split ?_ ?_) <;> intro hb <;> try simp only [go_sem, hb, hA, e3] | with_reducible refine d181_0_LBooks1 (by with_unfolding_all rfl) (by kernel_rfl) ?_ <;> try simp only [go_sem, hA, e3] | with_reducible refine hQ _ _ ?_ <;> simp only [Tryz.f181, go_sem, hA, e3])
        exact kB hk (by rw [instrsOk, okL, hP, Bool.true_and, decide_eq_true (by omega)])
      have hi := lt_len hb
      have hw := wrap_nat i (by omega)
      have hil : (i : Int) < ((xs.length : Nat) : Int) := Int.ofNat_lt.2 hi
      have hg0 : (xs)[i]? = some ((xs)[i]) := List.getElem?_eq_getElem (by omega)
      simp only [go_sem, hb, hA, e3, hg0]
      try simp only [go_sem, hA, e3, hil, hg0]
      cases hr : rowG insP insLt xs i with
      | true =>
        have hall := allTo_s hP hr
        rcases i with _ | j
        · have g0 : decide ((0 : Int) < ((0 : Nat) : Int)) = false := by decide
          rw [rowG_0 hi] at hr
          simp only [insP, Bool.and_eq_true] at hr
          obtain ⟨f0, f1⟩ := hr
          (try simp only [go_sem, hA, e3, hil, hg0, g0, f0, f1]); repeat' (first | (with_reducible first | refine c_split ?_ ?_ | refine w_split ?_ ?_ | refine tw_split ?_ ?_) <;> intro hb <;> try simp only [go_sem, hb, hA, e3, hil, hg0, g0, f0, f1] | (first | with_reducible refine d181_0_LBooks1 (by with_unfolding_all rfl) (by kernel_rfl) ?_ | refine call_c (c_l3No _ _ ?_) | refine call_c (c_l1In _ _ _ _ ?_) | fail) <;> try simp only [go_sem, hA, e3, hil, hg0, g0, f0, f1] | fail)
          refine gc_trim 0 (by decide) (by simp only [go_sem]) (by simp only [go_sem]) (hJ _ _ hi (by simp only [go_sem, hA, e3]) ⟨?_, ?_, ?_⟩) <;> try simp only [go_sem, hA, e3, hw]
          exact hall
        · have hj : j < xs.length := by omega
          have hgj : xs[j]? = some xs[j] := List.getElem?_eq_getElem hj
          have g1 : decide ((0 : Int) < ((j + 1 : Nat) : Int)) = true := decide_eq_true (by omega)
          have g2 : wrap64 (((j + 1 : Nat) : Int) - 1) = (j : Int) := by unfold wrap64; omega
          rw [rowG_s hi, Bool.and_eq_true] at hr
          obtain ⟨hr, hlt⟩ := hr
          simp only [insP, Bool.and_eq_true] at hr
          obtain ⟨f0, f1⟩ := hr
          have hlt2 := insLt_f hlt
          (try simp only [go_sem, hA, e3, hil, hg0, g1, g2, hgj, hlt2, f0, f1]); repeat' (first | (with_reducible first | refine c_split ?_ ?_ | refine w_split ?_ ?_ | refine tw_split ?_ ?_) <;> intro hb <;> try simp only [go_sem, hb, hA, e3, hil, hg0, g1, g2, hgj, hlt2, f0, f1] | (first | with_reducible refine d181_0_LBooks1 (by with_unfolding_all rfl) (by kernel_rfl) ?_ | refine call_c (c_l3No _ _ ?_) | refine call_c (c_l1In _ _ _ _ ?_) | fail) <;> try simp only [go_sem, hA, e3, hil, hg0, g1, g2, hgj, hlt2, f0, f1] | fail)
          refine gc_trim 0 (by decide) (by simp only [go_sem]) (by simp only [go_sem]) (hJ _ _ hi (by simp only [go_sem, hA, e3]) ⟨?_, ?_, ?_⟩) <;> try simp only [go_sem, hA, e3, hw]
          exact hall
      | false =>
        rw [instrsOk, okL_no hr hi] at hk
        rcases i with _ | j
        · have g0 : decide ((0 : Int) < ((0 : Nat) : Int)) = false := by decide
          rw [rowG_0 hi] at hr
          (try simp only [go_sem, hA, e3, hil, hg0, g0]); repeat' (first | (with_reducible first | refine c_split ?_ ?_ | refine w_split ?_ ?_ | refine tw_split ?_ ?_) <;> intro hb <;> try simp only [go_sem, hb, hA, e3, hil, hg0, g0] | (first | with_reducible refine d181_0_LBooks1 (by with_unfolding_all rfl) (by kernel_rfl) ?_ | refine call_c (c_l3No _ _ ?_) | refine call_c (c_l1In _ _ _ _ ?_) | fail) <;> try simp only [go_sem, hA, e3, hil, hg0, g0] | with_reducible refine hQ _ _ ?_ <;> simp only [Tryz.f181, go_sem, hA, e3, hil, hg0, g0])
          all_goals first | exact hk | exact (Bool.eq_false_iff.1 hr (by clear hr hJ hA hQ hQO; simp only [insP]; simp_all <;> omega)).elim
        · have hj : j < xs.length := by omega
          have hgj : xs[j]? = some xs[j] := List.getElem?_eq_getElem hj
          have g1 : decide ((0 : Int) < ((j + 1 : Nat) : Int)) = true := decide_eq_true (by omega)
          have g2 : wrap64 (((j + 1 : Nat) : Int) - 1) = (j : Int) := by unfold wrap64; omega
          rw [rowG_s hi] at hr
          (try simp only [go_sem, hA, e3, hil, hg0, g1, g2, hgj]); repeat' (first | (with_reducible first | refine c_split ?_ ?_ | refine w_split ?_ ?_ | refine tw_split ?_ ?_) <;> intro hb <;> try simp only [go_sem, hb, hA, e3, hil, hg0, g1, g2, hgj] | (first | with_reducible refine d181_0_LBooks1 (by with_unfolding_all rfl) (by kernel_rfl) ?_ | refine call_c (c_l3No _ _ ?_) | refine call_c (c_l1In _ _ _ _ ?_) | fail) <;> try simp only [go_sem, hA, e3, hil, hg0, g1, g2, hgj] | with_reducible refine hQ _ _ ?_ <;> simp only [Tryz.f181, go_sem, hA, e3, hil, hg0, g1, g2, hgj])
          all_goals first | exact hk | exact (Bool.eq_false_iff.1 hr (by clear hr hJ hA hQ hQO; simp only [insP, insLt]; simp_all <;> omega)).elim
def pairLt (a b c d : Int) : Bool := decide (a < c) || decide (a = c) && decide (b < d)
def byBoth (a b c d : Int) : Int := if pairLt a b c d = true then -1 else if a = c ∧ b = d then 0 else 1
theorem c_byBoth (a b c d : Int) (K : AV → AH → Prop) (hk : K (.one (.c (.int .i64 (byBoth a b c d)))) []) : ACalls Tryz.prog 247 [(.one (.c (.int .i64 (a)))), (.one (.c (.int .i64 (b)))), (.one (.c (.int .i64 (c)))), (.one (.c (.int .i64 (d))))] [] K := by
  refine acall_c Tryz.f247.results.toList mixed Tryz.func247 rfl rfl (by kernel_rfl) ?_
  intro Q hQ hQO
  simp only [go_sem]
  (try simp only [go_sem]); repeat' (first | (with_reducible first | refine c_split ?_ ?_ | refine w_split ?_ ?_) <;> intro hb <;> try simp only [go_sem, hb] | with_reducible refine hQ _ _ ?_ <;> simp only [Tryz.f247, go_sem])
  all_goals refine (congrArg (fun q => K (.one (.c (.int .i64 q))) []) ?_).mp hk
  all_goals (unfold byBoth pairLt; simp_all; try omega)
theorem c_l4Before (a b c d : Int) (K : AV → AH → Prop) (hk : K (.one (.c (.bool (pairLt a b c d)))) []) : ACalls Tryz.prog 237 [(.one (.c (.int .i64 (a)))), (.one (.c (.int .i64 (b)))), (.one (.c (.int .i64 (c)))), (.one (.c (.int .i64 (d))))] [] K := by
  refine acall_c Tryz.f237.results.toList mixed Tryz.func237 rfl rfl (by kernel_rfl) ?_
  intro Q hQ hQO
  simp only [go_sem]
  (try simp only [go_sem]); repeat' (first | (with_reducible first | refine c_split ?_ ?_ | refine w_split ?_ ?_) <;> intro hb <;> try simp only [go_sem, hb] | with_reducible refine hQ _ _ ?_ <;> simp only [Tryz.f237, go_sem])
  all_goals (refine kB hk ?_; unfold pairLt; simp_all; try omega)
theorem byBoth_lt {a b c d : Int} : (byBoth a b c d < 0 ↔ pairLt a b c d = true) ∧ (byBoth a b c d = 0 ↔ a = c ∧ b = d) := by
  unfold byBoth
  by_cases h : pairLt a b c d = true
  · rw [if_pos h]
    refine ⟨⟨fun _ => h, fun _ => by decide⟩, ⟨fun q => by omega, fun ⟨q1, q2⟩ => ?_⟩⟩
    subst q1 q2
    simp [pairLt] at h
  · rw [if_neg h]
    split
    · rename_i q; exact ⟨⟨fun q => by omega, fun q => absurd q h⟩, ⟨fun _ => q, fun _ => rfl⟩⟩
    · rename_i q; exact ⟨⟨fun q => by omega, fun q => absurd q h⟩, ⟨fun q => by omega, fun w => absurd w q⟩⟩
theorem pairLt_by {a b c d : Int} : pairLt a b c d = decide (byBoth a b c d < 0) := by
  by_cases h : pairLt a b c d = true
  · rw [h, decide_eq_true (byBoth_lt.1.2 h)]
  · rw [decide_eq_false (fun q => h (byBoth_lt.1.1 q))]; simpa using h
def balP (x : Bal) : Bool := noOk x.account && noOk x.instr && amtOk x.amount && !(x.amount == 0)
def balLt (y x : Bal) : Bool := pairLt y.account y.instr x.account x.instr
def balsOk (xs : List Bal) : Bool := okL balP balLt 160 xs
theorem balLt_i {y x : Bal} (h : balLt y x = true) : decide (0 ≤ byBoth y.account y.instr x.account x.instr) = false := decide_eq_false (by have := byBoth_lt.1.2 h; omega)
theorem balLt_s {y x : Bal} (h : balLt y x = true) : pairLt y.account y.instr x.account x.instr = true := h
set_option maxHeartbeats 2000000 in
theorem c_impl_BalsOk (xs : List Bal) (hn : xs.length ≤ 1000000000) (K : AV → AH → Prop) (hk : K (.one (.c (.bool (balsOk xs)))) []) : ACalls Tryz.prog 191 [(.one (.im (xs.map balC)))] [] K := by
  refine acall_c Tryz.f191.results.toList mixed Tryz.func191 rfl rfl (by kernel_rfl) ?_
  intro Q hQ hQO
  simp only [go_sem]
  refine for_at (xs.length) [0, 5, 6] (fun i f h => f 7 = (.one (.c (.int .i64 (i)))) ∧ h = [] ∧ allTo (rowG balP balLt xs) i = true) (GC.now ?_) ?_
  · simp only [go_sem, nc_0, true_and]
    rfl
  · rintro i f h J hi hA ⟨e7, rfl, hP⟩ hJ
    simp only [go_sem] at hA
    simp only [go_sem, hA, e7]
    refine c_split (fun hb => ?_) (fun hb => ?_)
    rotate_left
    · simp only [go_sem, hb, hA, e7]
      obtain rfl := ge_len hb hi
      (try simp only [go_sem, hA, e7]); repeat' (first | (with_reducible first | refine c_split ?_ ?_ | refine w_split ?_ ?_ | refine tw_split ?_ ?_) <;> intro hb <;> try simp only [go_sem, hb, hA, e7] | with_reducible refine d191_0_LBooks1 (by with_unfolding_all rfl) (by kernel_rfl) ?_ <;> try simp only [go_sem, hA, e7] | with_reducible refine hQ _ _ ?_ <;> simp only [Tryz.f191, go_sem, hA, e7])
      exact kB hk (by rw [balsOk, okL, hP, Bool.true_and])
    have hi := lt_len hb
    have hw := wrap_nat i (by omega)
    have hil : (i : Int) < ((xs.length : Nat) : Int) := Int.ofNat_lt.2 hi
    have hg0 : (xs)[i]? = some ((xs)[i]) := List.getElem?_eq_getElem (by omega)
    simp only [go_sem, hb, hA, e7, hg0]
    try simp only [go_sem, hA, e7, hil, hg0]
    cases hr : rowG balP balLt xs i with
    | true =>
      have hall := allTo_s hP hr
      rcases i with _ | j
      · have g0 : decide ((0 : Int) < ((0 : Nat) : Int)) = false := by decide
        rw [rowG_0 hi] at hr
        simp only [balP, Bool.and_eq_true] at hr
        obtain ⟨⟨⟨f0, f1⟩, f2⟩, f3⟩ := hr
        have f3 := not_tt f3
        (try simp only [go_sem, hA, e7, hil, hg0, g0, f0, f1, f2, f3]); repeat' (first | (with_reducible first | refine c_split ?_ ?_ | refine w_split ?_ ?_ | refine tw_split ?_ ?_) <;> intro hb <;> try simp only [go_sem, hb, hA, e7, hil, hg0, g0, f0, f1, f2, f3] | (first | with_reducible refine d191_0_LBooks1 (by with_unfolding_all rfl) (by kernel_rfl) ?_ | refine call_c (c_isNo _ _ ?_) | refine call_c (c_impl_AmountOk _ _ ?_) | refine call_c (c_byBoth _ _ _ _ _ ?_) | fail) <;> try simp only [go_sem, hA, e7, hil, hg0, g0, f0, f1, f2, f3] | fail)
        refine gc_trim 0 (by decide) (by simp only [go_sem]) (by simp only [go_sem]) (hJ _ _ hi (by simp only [go_sem, hA, e7]) ⟨?_, ?_, ?_⟩) <;> try simp only [go_sem, hA, e7, hw]
        exact hall
      · have hj : j < xs.length := by omega
        have hgj : xs[j]? = some xs[j] := List.getElem?_eq_getElem hj
        have g1 : decide ((0 : Int) < ((j + 1 : Nat) : Int)) = true := decide_eq_true (by omega)
        have g2 : wrap64 (((j + 1 : Nat) : Int) - 1) = (j : Int) := by unfold wrap64; omega
        rw [rowG_s hi, Bool.and_eq_true] at hr
        obtain ⟨hr, hlt⟩ := hr
        simp only [balP, Bool.and_eq_true] at hr
        obtain ⟨⟨⟨f0, f1⟩, f2⟩, f3⟩ := hr
        have f3 := not_tt f3
        have hlt2 := balLt_i hlt
        (try simp only [go_sem, hA, e7, hil, hg0, g1, g2, hgj, hlt2, f0, f1, f2, f3]); repeat' (first | (with_reducible first | refine c_split ?_ ?_ | refine w_split ?_ ?_ | refine tw_split ?_ ?_) <;> intro hb <;> try simp only [go_sem, hb, hA, e7, hil, hg0, g1, g2, hgj, hlt2, f0, f1, f2, f3] | (first | with_reducible refine d191_0_LBooks1 (by with_unfolding_all rfl) (by kernel_rfl) ?_ | refine call_c (c_isNo _ _ ?_) | refine call_c (c_impl_AmountOk _ _ ?_) | refine call_c (c_byBoth _ _ _ _ _ ?_) | fail) <;> try simp only [go_sem, hA, e7, hil, hg0, g1, g2, hgj, hlt2, f0, f1, f2, f3] | fail)
        refine gc_trim 0 (by decide) (by simp only [go_sem]) (by simp only [go_sem]) (hJ _ _ hi (by simp only [go_sem, hA, e7]) ⟨?_, ?_, ?_⟩) <;> try simp only [go_sem, hA, e7, hw]
        exact hall
    | false =>
      rw [balsOk, okL_no hr hi] at hk
      rcases i with _ | j
      · have g0 : decide ((0 : Int) < ((0 : Nat) : Int)) = false := by decide
        rw [rowG_0 hi] at hr
        (try simp only [go_sem, hA, e7, hil, hg0, g0]); repeat' (first | (with_reducible first | refine c_split ?_ ?_ | refine w_split ?_ ?_ | refine tw_split ?_ ?_) <;> intro hb <;> try simp only [go_sem, hb, hA, e7, hil, hg0, g0] | (first | with_reducible refine d191_0_LBooks1 (by with_unfolding_all rfl) (by kernel_rfl) ?_ | refine call_c (c_isNo _ _ ?_) | refine call_c (c_impl_AmountOk _ _ ?_) | refine call_c (c_byBoth _ _ _ _ _ ?_) | fail) <;> try simp only [go_sem, hA, e7, hil, hg0, g0] | with_reducible refine hQ _ _ ?_ <;> simp only [Tryz.f191, go_sem, hA, e7, hil, hg0, g0])
        all_goals first | exact hk | exact (Bool.eq_false_iff.1 hr (by clear hr hJ hA hQ hQO; simp only [balP]; simp_all <;> omega)).elim
      · have hj : j < xs.length := by omega
        have hgj : xs[j]? = some xs[j] := List.getElem?_eq_getElem hj
        have g1 : decide ((0 : Int) < ((j + 1 : Nat) : Int)) = true := decide_eq_true (by omega)
        have g2 : wrap64 (((j + 1 : Nat) : Int) - 1) = (j : Int) := by unfold wrap64; omega
        rw [rowG_s hi] at hr
        (try simp only [go_sem, hA, e7, hil, hg0, g1, g2, hgj]); repeat' (first | (with_reducible first | refine c_split ?_ ?_ | refine w_split ?_ ?_ | refine tw_split ?_ ?_) <;> intro hb <;> try simp only [go_sem, hb, hA, e7, hil, hg0, g1, g2, hgj] | (first | with_reducible refine d191_0_LBooks1 (by with_unfolding_all rfl) (by kernel_rfl) ?_ | refine call_c (c_isNo _ _ ?_) | refine call_c (c_impl_AmountOk _ _ ?_) | refine call_c (c_byBoth _ _ _ _ _ ?_) | fail) <;> try simp only [go_sem, hA, e7, hil, hg0, g1, g2, hgj] | with_reducible refine hQ _ _ ?_ <;> simp only [Tryz.f191, go_sem, hA, e7, hil, hg0, g1, g2, hgj])
        all_goals first | exact hk | exact (Bool.eq_false_iff.1 hr (by clear hr hJ hA hQ hQO; simp only [balP, balLt, pairLt_by]; simp_all <;> omega)).elim
set_option maxHeartbeats 2000000 in
theorem c_spec_BalsOk (xs : List Bal) (hn : xs.length ≤ 1000000000) (K : AV → AH → Prop) (hk : K (.one (.c (.bool (balsOk xs)))) []) : ACalls Tryz.prog 182 [(.one (.im (xs.map balC)))] [] K := by
  refine acall_c Tryz.f182.results.toList mixed Tryz.func182 rfl rfl (by kernel_rfl) ?_
  intro Q hQ hQO
  simp only [go_sem]
  (try simp only [go_sem]); repeat' (first | (with_reducible first | refine c_split ?_ ?_ | refine w_split ?_ ?_ | refine tw_split ?_ ?_) <;> intro hb <;> try simp only [go_sem, hb] | with_reducible refine d182_0_LBooks1 (by with_unfolding_all rfl) (by kernel_rfl) ?_ <;> try simp only [go_sem] | fail)
  · rw [balsOk, okL_long (of_decide_eq_true hb)] at hk
    (try simp only [go_sem]); repeat' (first | (with_reducible first | refine c_split ?_ ?_ | refine w_split ?_ ?_ | refine tw_split ?_ ?_) <;> intro hb <;> try simp only [go_sem, hb] | with_reducible refine d182_0_LBooks1 (by with_unfolding_all rfl) (by kernel_rfl) ?_ <;> try simp only [go_sem] | with_reducible refine hQ _ _ ?_ <;> simp only [Tryz.f182, go_sem])
    exact hk
  · have hlen := of_decide_eq_false hb
    refine for_at (xs.length) [0] (fun i f h => f 3 = (.one (.c (.int .i64 (i)))) ∧ h = [] ∧ allTo (rowG balP balLt xs) i = true) (GC.now ?_) ?_
    · simp only [go_sem, nc_0, true_and]
      rfl
    · rintro i f h J hi hA ⟨e3, rfl, hP⟩ hJ
      simp only [go_sem] at hA
      simp only [go_sem, hA, e3]
      refine c_split (fun hb => ?_) (fun hb => ?_)
      rotate_left
      · simp only [go_sem, hb, hA, e3]
        obtain rfl := ge_len hb hi
        (try simp only [go_sem, hA, e3]); repeat' (first | (with_reducible first | refine c_split ?_ ?_ | refine w_split ?_ ?_ | refine tw_split ?_ ?_) <;> intro hb <;> try simp only [go_sem, hb, hA, e3] | with_reducible refine d182_0_LBooks1 (by with_unfolding_all rfl) (by kernel_rfl) ?_ <;> try simp only [go_sem, hA, e3] | with_reducible refine hQ _ _ ?_ <;> simp only [Tryz.f182, go_sem, hA, e3])
        exact kB hk (by rw [balsOk, okL, hP, Bool.true_and, decide_eq_true (by omega)])
      have hi := lt_len hb
      have hw := wrap_nat i (by omega)
      have hil : (i : Int) < ((xs.length : Nat) : Int) := Int.ofNat_lt.2 hi
      have hg0 : (xs)[i]? = some ((xs)[i]) := List.getElem?_eq_getElem (by omega)
      simp only [go_sem, hb, hA, e3, hg0]
      try simp only [go_sem, hA, e3, hil, hg0]
      cases hr : rowG balP balLt xs i with
      | true =>
        have hall := allTo_s hP hr
        rcases i with _ | j
        · have g0 : decide ((0 : Int) < ((0 : Nat) : Int)) = false := by decide
          rw [rowG_0 hi] at hr
          simp only [balP, Bool.and_eq_true] at hr
          obtain ⟨⟨⟨f0, f1⟩, f2⟩, f3⟩ := hr
          have f3 := not_tt f3
          (try simp only [go_sem, hA, e3, hil, hg0, g0, f0, f1, f2, f3]); repeat' (first | (with_reducible first | refine c_split ?_ ?_ | refine w_split ?_ ?_ | refine tw_split ?_ ?_) <;> intro hb <;> try simp only [go_sem, hb, hA, e3, hil, hg0, g0, f0, f1, f2, f3] | (first | with_reducible refine d182_0_LBooks1 (by with_unfolding_all rfl) (by kernel_rfl) ?_ | refine call_c (c_l3No _ _ ?_) | refine call_c (c_spec_AmountOk _ _ ?_) | refine call_c (c_l4Before _ _ _ _ _ ?_) | fail) <;> try simp only [go_sem, hA, e3, hil, hg0, g0, f0, f1, f2, f3] | fail)
          refine gc_trim 0 (by decide) (by simp only [go_sem]) (by simp only [go_sem]) (hJ _ _ hi (by simp only [go_sem, hA, e3]) ⟨?_, ?_, ?_⟩) <;> try simp only [go_sem, hA, e3, hw]
          exact hall
        · have hj : j < xs.length := by omega
          have hgj : xs[j]? = some xs[j] := List.getElem?_eq_getElem hj
          have g1 : decide ((0 : Int) < ((j + 1 : Nat) : Int)) = true := decide_eq_true (by omega)
          have g2 : wrap64 (((j + 1 : Nat) : Int) - 1) = (j : Int) := by unfold wrap64; omega
          rw [rowG_s hi, Bool.and_eq_true] at hr
          obtain ⟨hr, hlt⟩ := hr
          simp only [balP, Bool.and_eq_true] at hr
          obtain ⟨⟨⟨f0, f1⟩, f2⟩, f3⟩ := hr
          have f3 := not_tt f3
          have hlt2 := balLt_s hlt
          (try simp only [go_sem, hA, e3, hil, hg0, g1, g2, hgj, hlt2, f0, f1, f2, f3]); repeat' (first | (with_reducible first | refine c_split ?_ ?_ | refine w_split ?_ ?_ | refine tw_split ?_ ?_) <;> intro hb <;> try simp only [go_sem, hb, hA, e3, hil, hg0, g1, g2, hgj, hlt2, f0, f1, f2, f3] | (first | with_reducible refine d182_0_LBooks1 (by with_unfolding_all rfl) (by kernel_rfl) ?_ | refine call_c (c_l3No _ _ ?_) | refine call_c (c_spec_AmountOk _ _ ?_) | refine call_c (c_l4Before _ _ _ _ _ ?_) | fail) <;> try simp only [go_sem, hA, e3, hil, hg0, g1, g2, hgj, hlt2, f0, f1, f2, f3] | fail)
          refine gc_trim 0 (by decide) (by simp only [go_sem]) (by simp only [go_sem]) (hJ _ _ hi (by simp only [go_sem, hA, e3]) ⟨?_, ?_, ?_⟩) <;> try simp only [go_sem, hA, e3, hw]
          exact hall
      | false =>
        rw [balsOk, okL_no hr hi] at hk
        rcases i with _ | j
        · have g0 : decide ((0 : Int) < ((0 : Nat) : Int)) = false := by decide
          rw [rowG_0 hi] at hr
          (try simp only [go_sem, hA, e3, hil, hg0, g0]); repeat' (first | (with_reducible first | refine c_split ?_ ?_ | refine w_split ?_ ?_ | refine tw_split ?_ ?_) <;> intro hb <;> try simp only [go_sem, hb, hA, e3, hil, hg0, g0] | (first | with_reducible refine d182_0_LBooks1 (by with_unfolding_all rfl) (by kernel_rfl) ?_ | refine call_c (c_l3No _ _ ?_) | refine call_c (c_spec_AmountOk _ _ ?_) | refine call_c (c_l4Before _ _ _ _ _ ?_) | fail) <;> try simp only [go_sem, hA, e3, hil, hg0, g0] | with_reducible refine hQ _ _ ?_ <;> simp only [Tryz.f182, go_sem, hA, e3, hil, hg0, g0])
          all_goals first | exact hk | exact (Bool.eq_false_iff.1 hr (by clear hr hJ hA hQ hQO; simp only [balP]; simp_all <;> omega)).elim
        · have hj : j < xs.length := by omega
          have hgj : xs[j]? = some xs[j] := List.getElem?_eq_getElem hj
          have g1 : decide ((0 : Int) < ((j + 1 : Nat) : Int)) = true := decide_eq_true (by omega)
          have g2 : wrap64 (((j + 1 : Nat) : Int) - 1) = (j : Int) := by unfold wrap64; omega
          rw [rowG_s hi] at hr
          (try simp only [go_sem, hA, e3, hil, hg0, g1, g2, hgj]); repeat' (first | (with_reducible first | refine c_split ?_ ?_ | refine w_split ?_ ?_ | refine tw_split ?_ ?_) <;> intro hb <;> try simp only [go_sem, hb, hA, e3, hil, hg0, g1, g2, hgj] | (first | with_reducible refine d182_0_LBooks1 (by with_unfolding_all rfl) (by kernel_rfl) ?_ | refine call_c (c_l3No _ _ ?_) | refine call_c (c_spec_AmountOk _ _ ?_) | refine call_c (c_l4Before _ _ _ _ _ ?_) | fail) <;> try simp only [go_sem, hA, e3, hil, hg0, g1, g2, hgj] | with_reducible refine hQ _ _ ?_ <;> simp only [Tryz.f182, go_sem, hA, e3, hil, hg0, g1, g2, hgj])
          all_goals first | exact hk | exact (Bool.eq_false_iff.1 hr (by clear hr hJ hA hQ hQO; simp only [balP, balLt]; simp_all <;> omega)).elim
end Go.Proofs.YtlefjpbhbiajfaaGreat
end
section
namespace Go.Proofs.YtlefjpbhbiajfaaGreat
open Go.BL Go.RowKit
set_option linter.unusedVariables false
set_option linter.unusedSimpArgs false
set_option maxRecDepth 100000
theorem d193_0_LBooksT : DrawL Tryz.prog 0 47 (.on [(0, false, true), (1, false, true), (2, false, true), (3, false, true), (4, false, true), (5, false, true), (6, false, true), (7, false, true), (8, false, true), (9, false, true), (10, false, true), (11, false, true), (12, false, true), (13, false, true), (14, false, true), (15, false, true), (16, false, true), (17, false, true), (18, false, true), (19, false, true), (20, true, true), (21, true, true), (22, true, true), (23, true, true), (24, true, true), (25, true, true), (26, false, false), (27, false, false), (28, false, true), (29, false, true), (30, false, true)] .nil) := draw_L
theorem d184_0_LBooksT : DrawL Tryz.prog 0 18 (.on [(0, false, true), (1, false, true), (2, false, true), (3, false, true), (4, false, true), (5, false, true), (6, false, true), (7, false, true), (8, false, true), (9, false, true), (10, false, true), (11, false, true), (12, false, true), (13, false, true), (14, false, true), (15, false, true), (16, false, true), (17, false, true), (18, false, true), (19, false, true), (20, false, true), (21, false, true), (22, false, true), (23, false, true), (24, false, true), (25, false, true), (26, false, true), (27, false, true), (28, false, true), (29, true, true), (30, true, true), (31, false, false), (32, false, false), (33, false, true), (34, false, true), (35, false, true), (36, false, true), (37, false, true), (38, false, true), (39, false, true), (40, false, true), (41, false, true), (42, false, true), (43, false, true), (44, false, true), (45, false, true), (46, false, true), (47, false, true), (48, false, true), (49, false, true), (50, false, true), (51, false, true), (52, false, true), (53, false, true), (54, false, true), (55, false, true), (56, false, true), (57, true, true), (58, true, true), (59, true, true), (60, true, true), (61, true, true), (62, true, true), (63, false, false), (64, false, false), (65, false, false), (66, false, false), (67, false, false)] .nil) := draw_L
attribute [local go_sem] accountC balC lotC tradeC
def trP (x : Trade) : Bool := noOk x.no && noOk x.buyer && noOk x.seller && noOk x.paper && noOk x.cash && !(x.buyer == x.seller) && decide (1 ≤ x.qty ∧ x.qty ≤ 1000000000000000) && decide (0 ≤ x.price ∧ x.price ≤ 1000000000000000) && decide (1 ≤ x.state ∧ x.state ≤ 3)
def trLt (y x : Trade) : Bool := decide (y.no < x.no)
def tradesOk (xs : List Trade) : Bool := okL trP trLt 30 xs
theorem trLt_f {y x : Trade} (h : trLt y x = true) : decide (x.no ≤ y.no) = false := by have := of_decide_eq_true h; exact decide_eq_false (by omega)
set_option maxHeartbeats 2000000 in
theorem c_impl_TradesOk (xs : List Trade) (hn : xs.length ≤ 1000000000) (K : AV → AH → Prop) (hk : K (.one (.c (.bool (tradesOk xs)))) []) : ACalls Tryz.prog 193 [(.one (.im (xs.map tradeC)))] [] K := by
  refine acall_c Tryz.f193.results.toList mixed Tryz.func193 rfl rfl (by kernel_rfl) ?_
  intro Q hQ hQO
  simp only [go_sem]
  refine for_at (xs.length) [0, 5, 6] (fun i f h => f 7 = (.one (.c (.int .i64 (i)))) ∧ h = [] ∧ allTo (rowG trP trLt xs) i = true) (GC.now ?_) ?_
  · simp only [go_sem, nc_0, true_and]
    rfl
  · rintro i f h J hi hA ⟨e7, rfl, hP⟩ hJ
    simp only [go_sem] at hA
    simp only [go_sem, hA, e7]
    refine c_split (fun hb => ?_) (fun hb => ?_)
    rotate_left
    · simp only [go_sem, hb, hA, e7]
      obtain rfl := ge_len hb hi
      (try simp only [go_sem, hA, e7]); repeat' (first | (with_reducible first | refine c_split ?_ ?_ | refine w_split ?_ ?_ | refine tw_split ?_ ?_) <;> intro hb <;> try simp only [go_sem, hb, hA, e7] | with_reducible refine d193_0_LBooksT (by with_unfolding_all rfl) (by kernel_rfl) ?_ <;> try simp only [go_sem, hA, e7] | with_reducible refine hQ _ _ ?_ <;> simp only [Tryz.f193, go_sem, hA, e7])
      exact kB hk (by rw [tradesOk, okL, hP, Bool.true_and])
    have hi := lt_len hb
    have hw := wrap_nat i (by omega)
    have hil : (i : Int) < ((xs.length : Nat) : Int) := Int.ofNat_lt.2 hi
    have hg0 : (xs)[i]? = some ((xs)[i]) := List.getElem?_eq_getElem (by omega)
    simp only [go_sem, hb, hA, e7, hg0]
    try simp only [go_sem, hA, e7, hil, hg0]
    cases hr : rowG trP trLt xs i with
    | true =>
      have hall := allTo_s hP hr
      rcases i with _ | j
      · have g0 : decide ((0 : Int) < ((0 : Nat) : Int)) = false := by decide
        rw [rowG_0 hi] at hr
        simp only [trP, Bool.and_eq_true] at hr
        obtain ⟨⟨⟨⟨⟨⟨⟨⟨f0, f1⟩, f2⟩, f3⟩, f4⟩, f5⟩, f6⟩, f7⟩, f8⟩ := hr
        have f5 := not_tt f5
        (try simp only [go_sem, hA, e7, hil, hg0, g0, f0, f1, f2, f3, f4, f5, f6, f7, f8]); repeat' (first | (with_reducible first | refine c_split ?_ ?_ | refine w_split ?_ ?_ | refine tw_split ?_ ?_) <;> intro hb <;> try simp only [go_sem, hb, hA, e7, hil, hg0, g0, f0, f1, f2, f3, f4, f5, f6, f7, f8] | (first | with_reducible refine d193_0_LBooksT (by with_unfolding_all rfl) (by kernel_rfl) ?_ | refine call_c (c_isNo _ _ ?_) | refine call_c (c_in _ _ _ _ ?_) | fail) <;> try simp only [go_sem, hA, e7, hil, hg0, g0, f0, f1, f2, f3, f4, f5, f6, f7, f8] | fail)
        refine gc_trim 0 (by decide) (by simp only [go_sem]) (by simp only [go_sem]) (hJ _ _ hi (by simp only [go_sem, hA, e7]) ⟨?_, ?_, ?_⟩) <;> try simp only [go_sem, hA, e7, hw]
        exact hall
      · have hj : j < xs.length := by omega
        have hgj : xs[j]? = some xs[j] := List.getElem?_eq_getElem hj
        have g1 : decide ((0 : Int) < ((j + 1 : Nat) : Int)) = true := decide_eq_true (by omega)
        have g2 : wrap64 (((j + 1 : Nat) : Int) - 1) = (j : Int) := by unfold wrap64; omega
        rw [rowG_s hi, Bool.and_eq_true] at hr
        obtain ⟨hr, hlt⟩ := hr
        simp only [trP, Bool.and_eq_true] at hr
        obtain ⟨⟨⟨⟨⟨⟨⟨⟨f0, f1⟩, f2⟩, f3⟩, f4⟩, f5⟩, f6⟩, f7⟩, f8⟩ := hr
        have f5 := not_tt f5
        have hlt2 := trLt_f hlt
        (try simp only [go_sem, hA, e7, hil, hg0, g1, g2, hgj, hlt2, f0, f1, f2, f3, f4, f5, f6, f7, f8]); repeat' (first | (with_reducible first | refine c_split ?_ ?_ | refine w_split ?_ ?_ | refine tw_split ?_ ?_) <;> intro hb <;> try simp only [go_sem, hb, hA, e7, hil, hg0, g1, g2, hgj, hlt2, f0, f1, f2, f3, f4, f5, f6, f7, f8] | (first | with_reducible refine d193_0_LBooksT (by with_unfolding_all rfl) (by kernel_rfl) ?_ | refine call_c (c_isNo _ _ ?_) | refine call_c (c_in _ _ _ _ ?_) | fail) <;> try simp only [go_sem, hA, e7, hil, hg0, g1, g2, hgj, hlt2, f0, f1, f2, f3, f4, f5, f6, f7, f8] | fail)
        refine gc_trim 0 (by decide) (by simp only [go_sem]) (by simp only [go_sem]) (hJ _ _ hi (by simp only [go_sem, hA, e7]) ⟨?_, ?_, ?_⟩) <;> try simp only [go_sem, hA, e7, hw]
        exact hall
    | false =>
      rw [tradesOk, okL_no hr hi] at hk
      rcases i with _ | j
      · have g0 : decide ((0 : Int) < ((0 : Nat) : Int)) = false := by decide
        rw [rowG_0 hi] at hr
        (try simp only [go_sem, hA, e7, hil, hg0, g0]); repeat' (first | (with_reducible first | refine c_split ?_ ?_ | refine w_split ?_ ?_ | refine tw_split ?_ ?_) <;> intro hb <;> try simp only [go_sem, hb, hA, e7, hil, hg0, g0] | (first | with_reducible refine d193_0_LBooksT (by with_unfolding_all rfl) (by kernel_rfl) ?_ | refine call_c (c_isNo _ _ ?_) | refine call_c (c_in _ _ _ _ ?_) | fail) <;> try simp only [go_sem, hA, e7, hil, hg0, g0] | with_reducible refine hQ _ _ ?_ <;> simp only [Tryz.f193, go_sem, hA, e7, hil, hg0, g0])
        all_goals first | exact hk | exact (Bool.eq_false_iff.1 hr (by clear hr hJ hA hQ hQO; simp only [trP]; simp_all <;> omega)).elim
      · have hj : j < xs.length := by omega
        have hgj : xs[j]? = some xs[j] := List.getElem?_eq_getElem hj
        have g1 : decide ((0 : Int) < ((j + 1 : Nat) : Int)) = true := decide_eq_true (by omega)
        have g2 : wrap64 (((j + 1 : Nat) : Int) - 1) = (j : Int) := by unfold wrap64; omega
        rw [rowG_s hi] at hr
        (try simp only [go_sem, hA, e7, hil, hg0, g1, g2, hgj]); repeat' (first | (with_reducible first | refine c_split ?_ ?_ | refine w_split ?_ ?_ | refine tw_split ?_ ?_) <;> intro hb <;> try simp only [go_sem, hb, hA, e7, hil, hg0, g1, g2, hgj] | (first | with_reducible refine d193_0_LBooksT (by with_unfolding_all rfl) (by kernel_rfl) ?_ | refine call_c (c_isNo _ _ ?_) | refine call_c (c_in _ _ _ _ ?_) | fail) <;> try simp only [go_sem, hA, e7, hil, hg0, g1, g2, hgj] | with_reducible refine hQ _ _ ?_ <;> simp only [Tryz.f193, go_sem, hA, e7, hil, hg0, g1, g2, hgj])
        all_goals first | exact hk | exact (Bool.eq_false_iff.1 hr (by clear hr hJ hA hQ hQO; simp only [trP, trLt]; simp_all <;> omega)).elim
set_option maxHeartbeats 2000000 in
theorem c_spec_TradesOk (xs : List Trade) (hn : xs.length ≤ 1000000000) (K : AV → AH → Prop) (hk : K (.one (.c (.bool (tradesOk xs)))) []) : ACalls Tryz.prog 184 [(.one (.im (xs.map tradeC)))] [] K := by
  refine acall_c Tryz.f184.results.toList mixed Tryz.func184 rfl rfl (by kernel_rfl) ?_
  intro Q hQ hQO
  simp only [go_sem]
  (try simp only [go_sem]); repeat' (first | (with_reducible first | refine c_split ?_ ?_ | refine w_split ?_ ?_ | refine tw_split ?_ ?_) <;> intro hb <;> try simp only [go_sem, hb] | with_reducible refine d184_0_LBooksT (by with_unfolding_all rfl) (by kernel_rfl) ?_ <;> try simp only [go_sem] | fail)
  · rw [tradesOk, okL_long (of_decide_eq_true hb)] at hk
    (try simp only [go_sem]); repeat' (first | (with_reducible first | refine c_split ?_ ?_ | refine w_split ?_ ?_ | refine tw_split ?_ ?_) <;> intro hb <;> try simp only [go_sem, hb] | with_reducible refine d184_0_LBooksT (by with_unfolding_all rfl) (by kernel_rfl) ?_ <;> try simp only [go_sem] | with_reducible refine hQ _ _ ?_ <;> simp only [Tryz.f184, go_sem])
    exact hk
  · have hlen := of_decide_eq_false hb
    refine for_at (xs.length) [0] (fun i f h => f 3 = (.one (.c (.int .i64 (i)))) ∧ h = [] ∧ allTo (rowG trP trLt xs) i = true) (GC.now ?_) ?_
    · simp only [go_sem, nc_0, true_and]
      rfl
    · rintro i f h J hi hA ⟨e3, rfl, hP⟩ hJ
      simp only [go_sem] at hA
      simp only [go_sem, hA, e3]
      refine c_split (fun hb => ?_) (fun hb => ?_)
      rotate_left
      · simp only [go_sem, hb, hA, e3]
        obtain rfl := ge_len hb hi
        (try simp only [go_sem, hA, e3]); repeat' (first | (with_reducible first | refine c_split ?_ ?_ | refine w_split ?_ ?_ | refine tw_split ?_ ?_) <;> intro hb <;> try simp only [go_sem, hb, hA, e3] | with_reducible refine d184_0_LBooksT (by with_unfolding_all rfl) (by kernel_rfl) ?_ <;> try simp only [go_sem, hA, e3] | with_reducible refine hQ _ _ ?_ <;> simp only [Tryz.f184, go_sem, hA, e3])
        exact kB hk (by rw [tradesOk, okL, hP, Bool.true_and, decide_eq_true (by omega)])
      have hi := lt_len hb
      have hw := wrap_nat i (by omega)
      have hil : (i : Int) < ((xs.length : Nat) : Int) := Int.ofNat_lt.2 hi
      have hg0 : (xs)[i]? = some ((xs)[i]) := List.getElem?_eq_getElem (by omega)
      simp only [go_sem, hb, hA, e3, hg0]
      try simp only [go_sem, hA, e3, hil, hg0]
      cases hr : rowG trP trLt xs i with
      | true =>
        have hall := allTo_s hP hr
        rcases i with _ | j
        · have g0 : decide ((0 : Int) < ((0 : Nat) : Int)) = false := by decide
          rw [rowG_0 hi] at hr
          simp only [trP, Bool.and_eq_true] at hr
          obtain ⟨⟨⟨⟨⟨⟨⟨⟨f0, f1⟩, f2⟩, f3⟩, f4⟩, f5⟩, f6⟩, f7⟩, f8⟩ := hr
          have f5 := not_tt f5
          (try simp only [go_sem, hA, e3, hil, hg0, g0, f0, f1, f2, f3, f4, f5, f6, f7, f8]); repeat' (first | (with_reducible first | refine c_split ?_ ?_ | refine w_split ?_ ?_ | refine tw_split ?_ ?_) <;> intro hb <;> try simp only [go_sem, hb, hA, e3, hil, hg0, g0, f0, f1, f2, f3, f4, f5, f6, f7, f8] | (first | with_reducible refine d184_0_LBooksT (by with_unfolding_all rfl) (by kernel_rfl) ?_ | refine call_c (c_l3No _ _ ?_) | refine call_c (c_l1In _ _ _ _ ?_) | refine call_c (c_l1Some _ _ _ ?_) | fail) <;> try simp only [go_sem, hA, e3, hil, hg0, g0, f0, f1, f2, f3, f4, f5, f6, f7, f8] | fail)
          refine gc_trim 0 (by decide) (by simp only [go_sem]) (by simp only [go_sem]) (hJ _ _ hi (by simp only [go_sem, hA, e3]) ⟨?_, ?_, ?_⟩) <;> try simp only [go_sem, hA, e3, hw]
          exact hall
        · have hj : j < xs.length := by omega
          have hgj : xs[j]? = some xs[j] := List.getElem?_eq_getElem hj
          have g1 : decide ((0 : Int) < ((j + 1 : Nat) : Int)) = true := decide_eq_true (by omega)
          have g2 : wrap64 (((j + 1 : Nat) : Int) - 1) = (j : Int) := by unfold wrap64; omega
          rw [rowG_s hi, Bool.and_eq_true] at hr
          obtain ⟨hr, hlt⟩ := hr
          simp only [trP, Bool.and_eq_true] at hr
          obtain ⟨⟨⟨⟨⟨⟨⟨⟨f0, f1⟩, f2⟩, f3⟩, f4⟩, f5⟩, f6⟩, f7⟩, f8⟩ := hr
          have f5 := not_tt f5
          have hlt2 := trLt_f hlt
          (try simp only [go_sem, hA, e3, hil, hg0, g1, g2, hgj, hlt2, f0, f1, f2, f3, f4, f5, f6, f7, f8]); repeat' (first | (with_reducible first | refine c_split ?_ ?_ | refine w_split ?_ ?_ | refine tw_split ?_ ?_) <;> intro hb <;> try simp only [go_sem, hb, hA, e3, hil, hg0, g1, g2, hgj, hlt2, f0, f1, f2, f3, f4, f5, f6, f7, f8] | (first | with_reducible refine d184_0_LBooksT (by with_unfolding_all rfl) (by kernel_rfl) ?_ | refine call_c (c_l3No _ _ ?_) | refine call_c (c_l1In _ _ _ _ ?_) | refine call_c (c_l1Some _ _ _ ?_) | fail) <;> try simp only [go_sem, hA, e3, hil, hg0, g1, g2, hgj, hlt2, f0, f1, f2, f3, f4, f5, f6, f7, f8] | fail)
          refine gc_trim 0 (by decide) (by simp only [go_sem]) (by simp only [go_sem]) (hJ _ _ hi (by simp only [go_sem, hA, e3]) ⟨?_, ?_, ?_⟩) <;> try simp only [go_sem, hA, e3, hw]
          exact hall
      | false =>
        rw [tradesOk, okL_no hr hi] at hk
        rcases i with _ | j
        · have g0 : decide ((0 : Int) < ((0 : Nat) : Int)) = false := by decide
          rw [rowG_0 hi] at hr
          (try simp only [go_sem, hA, e3, hil, hg0, g0]); repeat' (first | (with_reducible first | refine c_split ?_ ?_ | refine w_split ?_ ?_ | refine tw_split ?_ ?_) <;> intro hb <;> try simp only [go_sem, hb, hA, e3, hil, hg0, g0] | (first | with_reducible refine d184_0_LBooksT (by with_unfolding_all rfl) (by kernel_rfl) ?_ | refine call_c (c_l3No _ _ ?_) | refine call_c (c_l1In _ _ _ _ ?_) | refine call_c (c_l1Some _ _ _ ?_) | fail) <;> try simp only [go_sem, hA, e3, hil, hg0, g0] | with_reducible refine hQ _ _ ?_ <;> simp only [Tryz.f184, go_sem, hA, e3, hil, hg0, g0])
          all_goals first | exact hk | exact (Bool.eq_false_iff.1 hr (by clear hr hJ hA hQ hQO; simp only [trP]; simp_all <;> omega)).elim
        · have hj : j < xs.length := by omega
          have hgj : xs[j]? = some xs[j] := List.getElem?_eq_getElem hj
          have g1 : decide ((0 : Int) < ((j + 1 : Nat) : Int)) = true := decide_eq_true (by omega)
          have g2 : wrap64 (((j + 1 : Nat) : Int) - 1) = (j : Int) := by unfold wrap64; omega
          rw [rowG_s hi] at hr
          (try simp only [go_sem, hA, e3, hil, hg0, g1, g2, hgj]); repeat' (first | (with_reducible first | refine c_split ?_ ?_ | refine w_split ?_ ?_ | refine tw_split ?_ ?_) <;> intro hb <;> try simp only [go_sem, hb, hA, e3, hil, hg0, g1, g2, hgj] | (first | with_reducible refine d184_0_LBooksT (by with_unfolding_all rfl) (by kernel_rfl) ?_ | refine call_c (c_l3No _ _ ?_) | refine call_c (c_l1In _ _ _ _ ?_) | refine call_c (c_l1Some _ _ _ ?_) | fail) <;> try simp only [go_sem, hA, e3, hil, hg0, g1, g2, hgj] | with_reducible refine hQ _ _ ?_ <;> simp only [Tryz.f184, go_sem, hA, e3, hil, hg0, g1, g2, hgj])
          all_goals first | exact hk | exact (Bool.eq_false_iff.1 hr (by clear hr hJ hA hQ hQO; simp only [trP, trLt]; simp_all <;> omega)).elim
end Go.Proofs.YtlefjpbhbiajfaaGreat
end
section
namespace Go.Proofs.YtlefjpbhbiajfaaGreat
open Go.BL Go.RowKit
set_option linter.unusedVariables false
set_option linter.unusedSimpArgs false
set_option maxRecDepth 100000
attribute [local go_sem] accountC balC lotC tradeC
theorem find_at {α : Type} {p : α → Bool} : ∀ {xs : List α} {i : Nat}, noneTo p xs i → ∀ (hi : i < xs.length), p xs[i] = true → xs.find? p = some xs[i]
  | [], i, _, hi, _ => absurd hi (Nat.not_lt_zero i)
  | x :: r, 0, _, _, hp => by rw [List.find?_cons]; simp at hp; rw [hp]; rfl
  | x :: r, i + 1, h, hi, hp => by
    have h0 : p x = false := h 0 (by simp) (by omega)
    rw [List.find?_cons, h0]
    exact find_at (xs := r) (i := i) (fun j hj hji => h (j + 1) (by simpa using hj) (by omega)) (by simpa using hi) (by simpa using hp)
theorem find_no {α : Type} {p : α → Bool} {xs : List α} (h : noneTo p xs xs.length) : xs.find? p = none := by
  rw [List.find?_eq_none]
  intro x hx
  obtain ⟨i, hi, rfl⟩ := List.mem_iff_getElem.1 hx
  rw [h i hi hi]; decide
def kindOf (xs : List Account) (no : Int) : Int := match xs.find? (fun a => a.no == no) with | some a => a.kind | none => 0
theorem c_accountKind (xs : List Account) (no : Int) (hn : xs.length ≤ 1000000000) (K : AV → AH → Prop) (hk : K (.one (.c (.int .i64 (kindOf xs no)))) []) : ACalls Tryz.prog 254 [(.one (.im (xs.map accountC))), (.one (.c (.int .i64 (no))))] [] K := by
  refine acall_c Tryz.f254.results.toList mixed Tryz.func254 rfl rfl (by kernel_rfl) ?_
  intro Q hQ hQO
  simp only [go_sem]
  refine for_at (xs.length) [1, 7, 8] (fun i f h => f 9 = (.one (.c (.int .i64 (i)))) ∧ h = [] ∧ noneTo (fun a => a.no == no) xs i) (GC.now ?_) ?_
  · simp only [go_sem, nc_0, true_and]
    exact noneTo_0 _ _
  · rintro i f h J hi hA ⟨e9, rfl, hP⟩ hJ
    simp only [go_sem] at hA
    simp only [go_sem, hA, e9]
    refine c_split (fun hb => ?_) (fun hb => ?_)
    rotate_left
    · simp only [go_sem, hb, hA, e9]
      obtain rfl := ge_len hb hi
      (try simp only [go_sem, hA, e9]); repeat' (first | (with_reducible first | refine c_split ?_ ?_ | refine w_split ?_ ?_) <;> intro hb <;> try simp only [go_sem, hb, hA, e9] | with_reducible refine hQ _ _ ?_ <;> simp only [Tryz.f254, go_sem, hA, e9])
      rw [kindOf, find_no hP] at hk
      exact hk
    have hi := lt_len hb
    have hw := wrap_nat i (by omega)
    have hil : (i : Int) < ((xs.length : Nat) : Int) := Int.ofNat_lt.2 hi
    have hg0 : (xs)[i]? = some ((xs)[i]) := List.getElem?_eq_getElem (by omega)
    simp only [go_sem, hb, hA, e9, hg0]
    try simp only [go_sem, hA, e9, hil, hg0]
    (try simp only [go_sem, hA, e9, hil, hg0]); repeat' (first | (with_reducible first | refine c_split ?_ ?_ | refine w_split ?_ ?_) <;> intro hb <;> try simp only [go_sem, hb, hA, e9, hil, hg0] | with_reducible refine hQ _ _ ?_ <;> simp only [Tryz.f254, go_sem, hA, e9, hil, hg0])
    · rw [kindOf, find_at hP hi hb] at hk
      exact hk
    · refine gc_trim 0 (by decide) (by simp only [go_sem]) (by simp only [go_sem]) (hJ _ _ hi (by simp only [go_sem, hA, e9]) ⟨?_, ?_, ?_⟩) <;> try simp only [go_sem, hA, e9, hw]
      exact noneTo_s hP hi hb
theorem c_instrKind (xs : List Account) (no : Int) (hn : xs.length ≤ 1000000000) (K : AV → AH → Prop) (hk : K (.one (.c (.int .i64 (kindOf xs no)))) []) : ACalls Tryz.prog 255 [(.one (.im (xs.map accountC))), (.one (.c (.int .i64 (no))))] [] K := by
  refine acall_c Tryz.f255.results.toList mixed Tryz.func255 rfl rfl (by kernel_rfl) ?_
  intro Q hQ hQO
  simp only [go_sem]
  refine for_at (xs.length) [1, 7, 8] (fun i f h => f 9 = (.one (.c (.int .i64 (i)))) ∧ h = [] ∧ noneTo (fun a => a.no == no) xs i) (GC.now ?_) ?_
  · simp only [go_sem, nc_0, true_and]
    exact noneTo_0 _ _
  · rintro i f h J hi hA ⟨e9, rfl, hP⟩ hJ
    simp only [go_sem] at hA
    simp only [go_sem, hA, e9]
    refine c_split (fun hb => ?_) (fun hb => ?_)
    rotate_left
    · simp only [go_sem, hb, hA, e9]
      obtain rfl := ge_len hb hi
      (try simp only [go_sem, hA, e9]); repeat' (first | (with_reducible first | refine c_split ?_ ?_ | refine w_split ?_ ?_) <;> intro hb <;> try simp only [go_sem, hb, hA, e9] | with_reducible refine hQ _ _ ?_ <;> simp only [Tryz.f255, go_sem, hA, e9])
      rw [kindOf, find_no hP] at hk
      exact hk
    have hi := lt_len hb
    have hw := wrap_nat i (by omega)
    have hil : (i : Int) < ((xs.length : Nat) : Int) := Int.ofNat_lt.2 hi
    have hg0 : (xs)[i]? = some ((xs)[i]) := List.getElem?_eq_getElem (by omega)
    simp only [go_sem, hb, hA, e9, hg0]
    try simp only [go_sem, hA, e9, hil, hg0]
    (try simp only [go_sem, hA, e9, hil, hg0]); repeat' (first | (with_reducible first | refine c_split ?_ ?_ | refine w_split ?_ ?_) <;> intro hb <;> try simp only [go_sem, hb, hA, e9, hil, hg0] | with_reducible refine hQ _ _ ?_ <;> simp only [Tryz.f255, go_sem, hA, e9, hil, hg0])
    · rw [kindOf, find_at hP hi hb] at hk
      exact hk
    · refine gc_trim 0 (by decide) (by simp only [go_sem]) (by simp only [go_sem]) (hJ _ _ hi (by simp only [go_sem, hA, e9]) ⟨?_, ?_, ?_⟩) <;> try simp only [go_sem, hA, e9, hw]
      exact noneTo_s hP hi hb
theorem c_AccountKind (xs : List Account) (no : Int) (hn : xs.length ≤ 1000000000) (hok : accountsOk xs = true) (K : AV → AH → Prop) (hk : K (.one (.c (.int .i64 (kindOf xs no)))) []) : ACalls Tryz.prog 187 [(.one (.im (xs.map accountC))), (.one (.c (.int .i64 (no))))] [] K := by
  refine acall_c Tryz.f187.results.toList mixed Tryz.func187 rfl rfl (by kernel_rfl) ?_
  intro Q hQ hQO
  simp only [go_sem]
  refine while_at (α := Nat) (fun j => xs.length - j) [0, 1] (fun j f h => f 5 = (.one (.c (.int .i64 ((j : Int))))) ∧ h = [] ∧ j ≤ xs.length ∧ noneTo (fun a => a.no == no) xs j) 0 (GC.now ?_) ?_
  · simp only [go_sem, nc_0, true_and]
    exact ⟨Nat.zero_le _, noneTo_0 _ _⟩
  · rintro j f h J hA ⟨e5, rfl, hP⟩ hJ
    simp only [go_sem] at hA
    try dsimp only at hJ
    simp only [go_sem, hA, e5]
    by_cases hi : j < xs.length
    · have hd : decide ((j : Int) < (xs.length : Int)) = true := decide_eq_true (Int.ofNat_lt.2 hi)
      have hil : (j : Int) < (xs.length : Int) := Int.ofNat_lt.2 hi
      have hg : xs[j]? = some xs[j] := List.getElem?_eq_getElem hi
      have hw := wrap_nat j (by omega)
      have hdec : xs.length - (j + 1) < xs.length - j := by omega
      (try simp only [go_sem, hA, e5, hd, hok, hg, hil]); repeat' (first | (with_reducible first | refine c_split ?_ ?_ | refine w_split ?_ ?_) <;> intro hb <;> try simp only [go_sem, hb, hA, e5, hd, hok, hg, hil] | refine call_c (c_spec_AccountsOk xs hn _ ?_) <;> try simp only [go_sem, hA, e5, hd, hok, hg, hil] | with_reducible refine hQ _ _ ?_ <;> simp only [Tryz.f187, go_sem, hA, e5, hd, hok, hg, hil])
      · rw [kindOf, find_at hP.2 hi hb] at hk
        exact hk
      · refine gc_trim 0 (by decide) (by simp only [go_sem]) (by simp only [go_sem, hw]) (hJ (j + 1) _ _ (by exact hdec) (by simp only [go_sem, hA, e5]) ⟨?_, ?_, ?_⟩) <;> try simp only [go_sem, hA, e5, hw]
        exact ⟨hi, noneTo_s hP.2 hi hb⟩
    · have hd : decide ((j : Int) < (xs.length : Int)) = false := decide_eq_false (fun q => hi (Int.ofNat_lt.1 q))
      have hj : j = xs.length := by omega
      subst hj
      (try simp only [go_sem, hA, e5, hd]); repeat' (first | (with_reducible first | refine c_split ?_ ?_ | refine w_split ?_ ?_) <;> intro hb <;> try simp only [go_sem, hb, hA, e5, hd] | with_reducible refine hQ _ _ ?_ <;> simp only [Tryz.f187, go_sem, hA, e5, hd])
      rw [kindOf, find_no hP.2] at hk
      exact hk
theorem c_InstrKind (xs : List Account) (no : Int) (hn : xs.length ≤ 1000000000) (hok : instrsOk xs = true) (K : AV → AH → Prop) (hk : K (.one (.c (.int .i64 (kindOf xs no)))) []) : ACalls Tryz.prog 188 [(.one (.im (xs.map accountC))), (.one (.c (.int .i64 (no))))] [] K := by
  refine acall_c Tryz.f188.results.toList mixed Tryz.func188 rfl rfl (by kernel_rfl) ?_
  intro Q hQ hQO
  simp only [go_sem]
  refine while_at (α := Nat) (fun j => xs.length - j) [0, 1] (fun j f h => f 5 = (.one (.c (.int .i64 ((j : Int))))) ∧ h = [] ∧ j ≤ xs.length ∧ noneTo (fun a => a.no == no) xs j) 0 (GC.now ?_) ?_
  · simp only [go_sem, nc_0, true_and]
    exact ⟨Nat.zero_le _, noneTo_0 _ _⟩
  · rintro j f h J hA ⟨e5, rfl, hP⟩ hJ
    simp only [go_sem] at hA
    try dsimp only at hJ
    simp only [go_sem, hA, e5]
    by_cases hi : j < xs.length
    · have hd : decide ((j : Int) < (xs.length : Int)) = true := decide_eq_true (Int.ofNat_lt.2 hi)
      have hil : (j : Int) < (xs.length : Int) := Int.ofNat_lt.2 hi
      have hg : xs[j]? = some xs[j] := List.getElem?_eq_getElem hi
      have hw := wrap_nat j (by omega)
      have hdec : xs.length - (j + 1) < xs.length - j := by omega
      (try simp only [go_sem, hA, e5, hd, hok, hg, hil]); repeat' (first | (with_reducible first | refine c_split ?_ ?_ | refine w_split ?_ ?_) <;> intro hb <;> try simp only [go_sem, hb, hA, e5, hd, hok, hg, hil] | refine call_c (c_spec_InstrsOk xs hn _ ?_) <;> try simp only [go_sem, hA, e5, hd, hok, hg, hil] | with_reducible refine hQ _ _ ?_ <;> simp only [Tryz.f188, go_sem, hA, e5, hd, hok, hg, hil])
      · rw [kindOf, find_at hP.2 hi hb] at hk
        exact hk
      · refine gc_trim 0 (by decide) (by simp only [go_sem]) (by simp only [go_sem, hw]) (hJ (j + 1) _ _ (by exact hdec) (by simp only [go_sem, hA, e5]) ⟨?_, ?_, ?_⟩) <;> try simp only [go_sem, hA, e5, hw]
        exact ⟨hi, noneTo_s hP.2 hi hb⟩
    · have hd : decide ((j : Int) < (xs.length : Int)) = false := decide_eq_false (fun q => hi (Int.ofNat_lt.1 q))
      have hj : j = xs.length := by omega
      subst hj
      (try simp only [go_sem, hA, e5, hd]); repeat' (first | (with_reducible first | refine c_split ?_ ?_ | refine w_split ?_ ?_) <;> intro hb <;> try simp only [go_sem, hb, hA, e5, hd] | with_reducible refine hQ _ _ ?_ <;> simp only [Tryz.f188, go_sem, hA, e5, hd])
      rw [kindOf, find_no hP.2] at hk
      exact hk
def sumB (xs : List Bal) (n : Int) : Int := (xs.map fun x => if (x.instr == n) = true then x.amount else 0).sum
theorem sumB_s (xs : List Bal) (n : Int) (i : Nat) (hi : i < xs.length) : sumB (xs.take (i + 1)) n = sumB (xs.take i) n + (if (xs[i].instr == n) = true then xs[i].amount else 0) := by
  rw [List.take_succ_eq_append_getElem hi, sumB, sumB, List.map_append, List.sum_append]; simp
theorem sumB_le (n : Int) : ∀ (xs : List Bal), (∀ x ∈ xs, amtOk x.amount = true) → -(1000000000000000 * (xs.length : Int)) ≤ sumB xs n ∧ sumB xs n ≤ 1000000000000000 * (xs.length : Int)
  | [], _ => by simp [sumB]
  | x :: r, h => by
    have ih := sumB_le n r (fun y hy => h y (List.mem_cons_of_mem _ hy))
    have hx : -1000000000000000 ≤ x.amount ∧ x.amount ≤ 1000000000000000 := of_decide_eq_true (h x (List.mem_cons_self ..))
    have e : sumB (x :: r) n = (if (x.instr == n) = true then x.amount else 0) + sumB r n := by simp [sumB]
    rw [e, List.length_cons]
    split <;> omega
theorem balsOk_amt {xs : List Bal} (h : balsOk xs = true) : (∀ x ∈ xs, amtOk x.amount = true) ∧ xs.length ≤ 160 := by
  refine ⟨fun x hx => ?_, by have := okL_len h; omega⟩
  have := okL_p h hx
  simp only [balP, Bool.and_eq_true] at this
  exact this.1.2
theorem sumB_w {xs : List Bal} (h : balsOk xs = true) (n : Int) {i : Nat} (hi : i < xs.length) : wrap64 (sumB (xs.take i) n + xs[i].amount) = sumB (xs.take i) n + xs[i].amount := by
  obtain ⟨h1, h2⟩ := balsOk_amt h
  have h3 := sumB_le n (xs.take i) (fun x hx => h1 x (List.mem_of_mem_take hx))
  have h4 : -1000000000000000 ≤ xs[i].amount ∧ xs[i].amount ≤ 1000000000000000 := of_decide_eq_true (h1 _ (List.getElem_mem hi))
  rw [List.length_take] at h3
  exact wrap_id _ (by omega) (by omega)
theorem c_balsSum (xs : List Bal) (n : Int) (hn : xs.length ≤ 1000000000) (hok : balsOk xs = true) (K : AV → AH → Prop) (hk : K (.one (.c (.int .i64 (sumB xs n)))) []) : ACalls Tryz.prog 256 [(.one (.im (xs.map balC))), (.one (.c (.int .i64 (n))))] [] K := by
  refine acall_c Tryz.f256.results.toList mixed Tryz.func256 rfl rfl (by kernel_rfl) ?_
  intro Q hQ hQO
  simp only [go_sem]
  refine for_at (xs.length) [1, 8, 9] (fun i f h => f 5 = (.one (.c (.int .i64 (sumB (xs.take i) n)))) ∧ f 10 = (.one (.c (.int .i64 (i)))) ∧ h = []) (GC.now ?_) ?_
  · simp only [go_sem, nc_0, true_and]
    rfl
  · rintro i f h J hi hA ⟨e5, e10, rfl⟩ hJ
    simp only [go_sem] at hA
    simp only [go_sem, hA, e5, e10]
    refine c_split (fun hb => ?_) (fun hb => ?_)
    rotate_left
    · simp only [go_sem, hb, hA, e5, e10]
      obtain rfl := ge_len hb hi
      (try simp only [go_sem, hA, e5, e10, List.take_length]); repeat' (first | (with_reducible first | refine c_split ?_ ?_ | refine w_split ?_ ?_) <;> intro hb <;> try simp only [go_sem, hb, hA, e5, e10, List.take_length] | with_reducible refine hQ _ _ ?_ <;> simp only [Tryz.f256, go_sem, hA, e5, e10, List.take_length])
      exact hk
    have hi := lt_len hb
    have hw := wrap_nat i (by omega)
    have hil : (i : Int) < ((xs.length : Nat) : Int) := Int.ofNat_lt.2 hi
    have hg0 : (xs)[i]? = some ((xs)[i]) := List.getElem?_eq_getElem (by omega)
    simp only [go_sem, hb, hA, e5, e10, hg0]
    try simp only [go_sem, hA, e5, e10, hil, hg0]
    have hs := sumB_s xs n i hi
    have hwv := sumB_w hok n hi
    (try simp only [go_sem, hA, e5, e10, hil, hg0]); repeat' (first | (with_reducible first | refine c_split ?_ ?_ | refine w_split ?_ ?_) <;> intro hb <;> try simp only [go_sem, hb, hA, e5, e10, hil, hg0] | fail)
    · rw [if_pos hb] at hs
      (try simp only [go_sem, hA, e5, e10, hil, hg0, hwv]); repeat' (first | (with_reducible first | refine c_split ?_ ?_ | refine w_split ?_ ?_) <;> intro hb <;> try simp only [go_sem, hb, hA, e5, e10, hil, hg0, hwv] | fail)
      refine gc_trim 0 (by decide) (by simp only [go_sem]) (by simp only [go_sem]) (hJ _ _ hi (by simp only [go_sem, hA, e5, e10]) ⟨?_, ?_, ?_⟩) <;> try simp only [go_sem, hA, e5, e10, hw, hs]
    · rw [if_neg (by rw [hb]; decide), Int.add_zero] at hs
      refine gc_trim 0 (by decide) (by simp only [go_sem]) (by simp only [go_sem]) (hJ _ _ hi (by simp only [go_sem, hA, e5, e10]) ⟨?_, ?_, ?_⟩) <;> try simp only [go_sem, hA, e5, e10, hw, hs]
theorem c_l1Told (x : Int) (ok : Bool) (K : AV → AH → Prop) (hk : K (.tup [(.one (.c (.int .i64 (if (ok && amtOk x) = true then x else 0)))), (.one (.c (.bool (ok && amtOk x))))]) []) : ACalls Tryz.prog 288 [(.one (.c (.int .i64 (x)))), (.one (.c (.bool (ok))))] [] K := by
  refine acall_c Tryz.f288.results.toList mixed Tryz.func288 rfl rfl (by kernel_rfl) ?_
  intro Q hQ hQO
  simp only [go_sem]
  (try simp only [go_sem]); repeat' (first | (with_reducible first | refine c_split ?_ ?_ | refine w_split ?_ ?_) <;> intro hb <;> try simp only [go_sem, hb] | refine call_c (c_spec_AmountOk _ _ ?_) <;> try simp only [go_sem] | with_reducible refine hQ _ _ ?_ <;> simp only [Tryz.f288, go_sem])
  · simp at hb; rw [hb] at hk; simpa using hk
  · simp at hb; simp [hb] at hk; exact hk
  · simp at hb; simp [hb] at hk; simp_all
theorem c_BalsSum (xs : List Bal) (n : Int) (hn : xs.length ≤ 1000000000) (hok : balsOk xs = true) (K : AV → AH → Prop) (hk : K (.tup [(.one (.c (.int .i64 (if amtOk (sumB xs n) = true then sumB xs n else 0)))), (.one (.c (.bool (amtOk (sumB xs n)))))]) []) : ACalls Tryz.prog 241 [(.one (.im (xs.map balC))), (.one (.c (.int .i64 (n))))] [] K := by
  refine acall_c Tryz.f241.results.toList mixed Tryz.func241 rfl rfl (by kernel_rfl) ?_
  intro Q hQ hQO
  simp only [go_sem]
  refine while_at (α := Nat) (fun j => xs.length - j) [0, 1] (fun j f h => f 6 = (.one (.c (.int .i64 (sumB (xs.take j) n)))) ∧ f 7 = (.one (.c (.int .i64 ((j : Int))))) ∧ h = [] ∧ j ≤ xs.length) 0 (GC.now ?_) ?_
  · simp only [go_sem, nc_0, true_and]
    exact ⟨rfl, Nat.zero_le _⟩
  · rintro j f h J hA ⟨e6, e7, rfl, hP⟩ hJ
    simp only [go_sem] at hA
    try dsimp only at hJ
    simp only [go_sem, hA, e6, e7]
    by_cases hi : j < xs.length
    · have hd : decide ((j : Int) < (xs.length : Int)) = true := decide_eq_true (Int.ofNat_lt.2 hi)
      have hil : (j : Int) < (xs.length : Int) := Int.ofNat_lt.2 hi
      have hg : xs[j]? = some xs[j] := List.getElem?_eq_getElem hi
      have hw := wrap_nat j (by omega)
      have hdec : xs.length - (j + 1) < xs.length - j := by omega
      have hs := sumB_s xs n j hi
      have hwv := sumB_w hok n hi
      (try simp only [go_sem, hA, e6, e7, hd, hok, hg, hil]); repeat' (first | (with_reducible first | refine c_split ?_ ?_ | refine w_split ?_ ?_) <;> intro hb <;> try simp only [go_sem, hb, hA, e6, e7, hd, hok, hg, hil] | refine call_c (c_spec_BalsOk xs hn _ ?_) <;> try simp only [go_sem, hA, e6, e7, hd, hok, hg, hil] | fail)
      · rw [if_pos hb] at hs
        (try simp only [go_sem, hA, e6, e7, hg, hil, hwv]); repeat' (first | (with_reducible first | refine c_split ?_ ?_ | refine w_split ?_ ?_) <;> intro hb <;> try simp only [go_sem, hb, hA, e6, e7, hg, hil, hwv] | fail)
        refine gc_trim 0 (by decide) (by simp only [go_sem]) (by simp only [go_sem, hw, hs]) (hJ (j + 1) _ _ (by exact hdec) (by simp only [go_sem, hA, e6, e7]) ⟨?_, ?_, ?_, ?_⟩) <;> try simp only [go_sem, hA, e6, e7, hw, hs]
        exact hi
      · rw [if_neg (by rw [hb]; decide), Int.add_zero] at hs
        refine gc_trim 0 (by decide) (by simp only [go_sem]) (by simp only [go_sem, hw, hs]) (hJ (j + 1) _ _ (by exact hdec) (by simp only [go_sem, hA, e6, e7]) ⟨?_, ?_, ?_, ?_⟩) <;> try simp only [go_sem, hA, e6, e7, hw, hs]
        exact hi
    · have hd : decide ((j : Int) < (xs.length : Int)) = false := decide_eq_false (fun q => hi (Int.ofNat_lt.1 q))
      have hj : j = xs.length := by omega
      subst hj
      rw [show amtOk (sumB xs n) = (true && amtOk (sumB xs n)) from (Bool.true_and _).symm] at hk
      (try simp only [go_sem, hA, e6, e7, hd, hok, List.take_length]); repeat' (first | (with_reducible first | refine c_split ?_ ?_ | refine w_split ?_ ?_) <;> intro hb <;> try simp only [go_sem, hb, hA, e6, e7, hd, hok, List.take_length] | (first | refine call_c (c_spec_BalsOk xs hn _ ?_) | refine call_c (c_l1Told (sumB xs n) true _ ?_) | fail) <;> try simp only [go_sem, hA, e6, e7, hd, hok, List.take_length] | with_reducible refine hQ _ _ ?_ <;> simp only [Tryz.f241, go_sem, hA, e6, e7, hd, hok, List.take_length])
      exact hk
end Go.Proofs.YtlefjpbhbiajfaaGreat
end
section
namespace Go.Proofs.YtlefjpbhbiajfaaGreat
open Go.BL Go.RowKit
set_option linter.unusedVariables false
set_option linter.unusedSimpArgs false
set_option maxRecDepth 100000
theorem d83_0_LClear : DrawL Tryz.prog 0 3 (.on [(0, true, true), (1, true, true), (2, false, false), (3, false, false), (4, false, false), (5, false, true), (6, false, true)] .nil) := draw_L
theorem d80_0_LClear : DrawL Tryz.prog 0 44 (.on [(0, true, true), (1, true, true), (2, true, false), (3, true, false), (4, false, false), (5, false, false), (6, false, false), (7, false, false), (8, false, false), (9, false, true), (10, false, true)] .nil) := draw_L
attribute [local go_sem] fileC diskC fileC_len intC
theorem c_l4Has (xs : List Int) (v : Int) (hn : xs.length ≤ 1000000000) (K : AV → AH → Prop) (hk : K (.one (.c (.bool (decide (v ∈ xs))))) []) : ACalls Tryz.prog 163 [(.one (.im (xs.map intC))), (.one (.c (.int .i64 (v))))] [] K := by
  refine acall_c Tryz.f163.results.toList mixed Tryz.func163 rfl rfl (by kernel_rfl) ?_
  intro Q hQ hQO
  simp only [go_sem]
  refine for_at (xs.length) [0, 1] (fun i f h => f 5 = (.one (.c (.int .i64 (i)))) ∧ h = [] ∧ noneTo (fun x => x == v) xs i) (GC.now ?_) ?_
  · simp only [go_sem, nc_0, true_and]
    exact noneTo_0 _ _
  · rintro i f h J hi hA ⟨e5, rfl, hP⟩ hJ
    simp only [go_sem] at hA
    simp only [go_sem, hA, e5]
    refine c_split (fun hb => ?_) (fun hb => ?_)
    rotate_left
    · simp only [go_sem, hb, hA, e5]
      obtain rfl := ge_len hb hi
      (try simp only [go_sem, hA, e5]); repeat' (first | (with_reducible first | refine c_split ?_ ?_ | refine w_split ?_ ?_) <;> intro hb <;> try simp only [go_sem, hb, hA, e5] | with_reducible refine hQ _ _ ?_ <;> simp only [Tryz.f163, go_sem, hA, e5])
      refine kB hk (decide_eq_false ?_).symm
      intro hm
      obtain ⟨j, hj, e⟩ := List.mem_iff_getElem.1 hm
      have := hP j hj hj
      simp [e] at this
    have hi := lt_len hb
    have hw := wrap_nat i (by omega)
    have hil : (i : Int) < ((xs.length : Nat) : Int) := Int.ofNat_lt.2 hi
    have hg0 : (xs)[i]? = some ((xs)[i]) := List.getElem?_eq_getElem (by omega)
    simp only [go_sem, hb, hA, e5, hg0]
    try simp only [go_sem, hA, e5, hil, hg0]
    (try simp only [go_sem, hA, e5, hil, hg0]); repeat' (first | (with_reducible first | refine c_split ?_ ?_ | refine w_split ?_ ?_) <;> intro hb <;> try simp only [go_sem, hb, hA, e5, hil, hg0] | with_reducible refine hQ _ _ ?_ <;> simp only [Tryz.f163, go_sem, hA, e5, hil, hg0])
    · refine kB hk (decide_eq_true ?_).symm
      have := eq_of_beq hb
      exact this ▸ List.getElem_mem hi
    · refine GC.now (hJ _ _ hi (by simp only [go_sem, hA, e5]) ⟨?_, ?_, ?_⟩) <;> try simp only [go_sem, hA, e5, hw]
      exact noneTo_s hP hi hb
theorem c_Clone (fs : List File) (hn : fs.length ≤ 1000000000) (K : AV → AH → Prop) (hk : ∀ cap, K (.one (.sl 0 0 0 fs.length)) [.own 0 125 3 cap (fs.map fileC)]) : ACalls Tryz.prog 166 [(.one (.im (fs.map fileC)))] [] K := by
  refine acall_c Tryz.f166.results.toList mixed Tryz.func166 rfl rfl (by kernel_rfl) ?_
  intro Q hQ hQO
  simp only [go_sem]
  by_cases hf : fs = []
  · subst hf
    simp only [go_sem, nq_im0, nqG]
    intro b
    (try simp only [go_sem]); repeat' (first | (with_reducible first | refine c_split ?_ ?_ | refine w_split ?_ ?_) <;> intro hb <;> try simp only [go_sem, hb] | fail)
    · refine hQO [0] _ _ (GC.step (Ghost.nlr 2 (by simp only [go_sem]) 125 3) (GC.now ?_)) <;> simp only [Tryz.f166, go_sem, List.nodup_cons, List.nodup_nil, List.mem_cons, List.not_mem_nil, or_false, not_false_eq_true, List.idxOf?_cons, List.idxOf?_nil, Option.map_none]
      exact hk _
    · refine ap_end rfl rfl (by decide) ?_
      (try simp only [go_sem]); repeat' (first | (with_reducible first | refine c_split ?_ ?_ | refine w_split ?_ ?_) <;> intro hb <;> try simp only [go_sem, hb] | fail)
      refine hQO [0] _ _ (GC.now ?_) <;> simp only [Tryz.f166, go_sem, List.nodup_cons, List.nodup_nil, List.mem_cons, List.not_mem_nil, or_false, not_false_eq_true, List.idxOf?_cons, List.idxOf?_nil, Option.map_none]
      exact hk _
  · have hne : fs.map fileC ≠ [] := by simpa using hf
    (try simp only [go_sem, nq_im _ hne, nqG]); repeat' (first | (with_reducible first | refine c_split ?_ ?_ | refine w_split ?_ ?_) <;> intro hb <;> try simp only [go_sem, hb, nq_im _ hne, nqG] | fail)
    refine ap_end rfl rfl (by simp; omega) ?_
    (try simp only [go_sem, Nat.zero_add]); repeat' (first | (with_reducible first | refine c_split ?_ ?_ | refine w_split ?_ ?_) <;> intro hb <;> try simp only [go_sem, hb, Nat.zero_add] | fail)
    refine hQO [0] _ _ (GC.now ?_) <;> simp only [Tryz.f166, go_sem, List.nodup_cons, List.nodup_nil, List.mem_cons, List.not_mem_nil, or_false, not_false_eq_true, List.idxOf?_cons, List.idxOf?_nil, Option.map_none]
    exact hk _
theorem c_cloneDisk (d : Disk) (hn : d.files.length ≤ 1000000000) (K : AV → AH → Prop) (hk : ∀ cap, K (.agg [.c (.int .i64 (d.room)), .sl 0 0 0 d.files.length]) [.own 0 125 3 cap (d.files.map fileC)]) : ACalls Tryz.prog 83 [.agg (diskC d)] [] K := by
  refine acall_c Tryz.f83.results.toList mixed Tryz.func83 rfl rfl (by kernel_rfl) ?_
  intro Q hQ hQO
  simp only [go_sem]
  (try simp only [go_sem]); repeat' (first | (with_reducible first | refine c_split ?_ ?_ | refine w_split ?_ ?_ | refine tw_split ?_ ?_) <;> intro hb <;> try simp only [go_sem, hb] | (first | with_reducible refine d83_0_LClear (by with_unfolding_all rfl) (by kernel_rfl) ?_ | refine call_c (c_Clone _ hn _ (fun cap => ?_)) | fail) <;> try simp only [go_sem] | fail)
  refine hQO [2] _ _ (GC.now ?_) <;> simp only [Tryz.f83, go_sem, List.nodup_cons, List.nodup_nil, List.mem_cons, List.not_mem_nil, or_false, not_false_eq_true, List.idxOf?_cons, List.idxOf?_nil, Option.map_none]
  exact hk _
def CloB (g : Nat) (caps : List Nat) (h0 : AH) (p : File → Bool) : Prop := ∀ (h1 : AH) (x : File) (K' : AV → AH → Prop), (∀ c ∈ caps, h1[c]? = h0[c]?) → K' (.one (.c (.bool (p x)))) h1 → callA Tryz.prog g ([.agg (fileC x)] ++ caps.map fun l => .one (.pt l 0 0 0)) h1 K'
theorem c_IndexFunc_sl (xs : List File) (l g : Nat) (cap : Option Nat) (gf : Nat) (caps : List Nat) (p : File → Bool) (h0 : AH) (hl : h0[l]? = some (.own g 125 3 cap (xs.map fileC))) (hn : xs.length ≤ 1000000000) (hp : CloB gf caps h0 p)
    (K : AV → AH → Prop) (hk : K (.one (.c (.int .i64 (findG p xs)))) h0) : ACalls Tryz.prog 197 [.one (.sl l g 0 xs.length), .one (.clo gf caps)] h0 K := by
  refine acall_m Tryz.f197.results.toList mixed Tryz.func197 rfl rfl (by kernel_rfl) ?_
  intro hwf Q hQ
  simp only [go_sem, hl, ca_clos]
  refine for_at (xs.length) [0, 1, 7] (fun i f h => f 8 = (.one (.c (.int .i64 (i)))) ∧ f 7 = (.one (.c (.int .i64 (xs.length)))) ∧ h = h0 ∧ noneTo p xs i) (GC.now ?_) ?_
  · simp only [go_sem, nc_0, true_and, hl, ca_clos]
    exact noneTo_0 p xs
  · rintro i f h J hi hA ⟨e8, e7, rfl, hP⟩ hJ
    simp only [go_sem, hl, ca_clos] at hA
    simp only [go_sem, hA, e8, e7, hl, ca_clos]
    refine c_split (fun hb => ?_) (fun hb => ?_)
    rotate_left
    · simp only [go_sem, hb, hA, e8, e7, hl, ca_clos]
      obtain rfl := ge_len hb hi
      refine hQ (h) _ _ ?_; refine GC.now (ret_m (by simp only [go_sem, Tryz.f197, hA, e8, e7, hl, ca_clos]; exact _root_.id rfl) (by simp only [go_sem]) (by simp) (by first | exact hwf | exact wf_set hwf (by simp only [go_sem, hA, e8, e7, hl, ca_clos]) | exact wf_set2 hwf (by simp only [go_sem, hA, e8, e7, hl, ca_clos]) (by simp only [go_sem, hA, e8, e7, hl, ca_clos]) | (simp only [go_sem]; done)) (by first | exact ⟨_, _root_.id rfl⟩ | exact ⟨[], (List.append_nil _).symm⟩) ?_) <;> simp only [go_sem, hA, e8, e7, hl, ca_clos]
      rw [findG_no hP] at hk
      exact hk
    have hi := lt_len hb
    have hw := wrap_nat i (by omega)
    have hil : (i : Int) < ((xs.length : Nat) : Int) := Int.ofNat_lt.2 hi
    have hg0 : (xs)[i]? = some ((xs)[i]) := List.getElem?_eq_getElem (by omega)
    simp only [go_sem, hb, hA, e8, e7, hl, ca_clos, hg0]
    try simp only [go_sem, hA, e8, e7, hl, ca_clos, hil, hg0]
    refine hp _ _ _ (fun _ _ => rfl) ?_
    simp only [go_sem, hA, e8, e7, hl, ca_clos, hil, hg0]
    (try simp only [go_sem, hA, e8, e7, hl, ca_clos, hil, hg0]); repeat' (first | (with_reducible first | refine c_split ?_ ?_ | refine w_split ?_ ?_) <;> intro hb <;> try simp only [go_sem, hb, hA, e8, e7, hl, ca_clos, hil, hg0] | fail)
    · refine hQ (h) _ _ ?_; refine GC.now (ret_m (by simp only [go_sem, Tryz.f197, hA, e8, e7, hl, ca_clos, hil, hg0]; exact _root_.id rfl) (by simp only [go_sem]) (by simp) (by first | exact hwf | exact wf_set hwf (by simp only [go_sem, hA, e8, e7, hl, ca_clos, hil, hg0]) | exact wf_set2 hwf (by simp only [go_sem, hA, e8, e7, hl, ca_clos, hil, hg0]) (by simp only [go_sem, hA, e8, e7, hl, ca_clos, hil, hg0]) | (simp only [go_sem]; done)) (by first | exact ⟨_, _root_.id rfl⟩ | exact ⟨[], (List.append_nil _).symm⟩) ?_) <;> simp only [go_sem, hA, e8, e7, hl, ca_clos, hil, hg0]
      rw [findG_of hP hi hb] at hk
      exact hk
    · refine GC.now (hJ _ _ hi (by simp only [go_sem, hA, e8, e7, hl, ca_clos]) ⟨?_, ?_, ?_, ?_⟩) <;> try simp only [go_sem, hA, e8, e7, hl, ca_clos, hw]
      exact noneTo_s hP hi hb
theorem findG_cases {α : Type} (p : α → Bool) (xs : List α) : (findG p xs = -1 ∧ xs.filter (fun x => !p x) = xs) ∨ ∃ (i : Nat) (hi : i < xs.length), findG p xs = i ∧ p xs[i] = true ∧ (xs.take (i + 1)).filter (fun x => !p x) = xs.take i := by
  unfold findG
  cases hf : xs.findIdx? p with
  | none =>
    rw [List.findIdx?_eq_none_iff] at hf
    exact .inl ⟨rfl, List.filter_eq_self.2 fun x hx => by simp [hf x hx]⟩
  | some i =>
    rw [List.findIdx?_eq_some_iff_getElem] at hf
    obtain ⟨hi, h1, h2⟩ := hf
    refine .inr ⟨i, hi, rfl, h1, ?_⟩
    rw [List.take_succ_eq_append_getElem hi, List.filter_append, List.filter_eq_self.2]
    · simp [h1]
    · intro x hx
      obtain ⟨j, hj, rfl⟩ := List.mem_iff_getElem.1 hx
      simp only [List.length_take] at hj
      have := h2 j (by omega)
      simpa using this
theorem del_arith {a m j n : Nat} (h : a + 1 + m = j) (hj : j < n) (hn : n ≤ 1000000000) : a < 9223372036854775807 ∧ j < 9223372036854775807 ∧ (a : Int) < (n : Int) ∧ n - (j + 1) < n - j ∧ j + 1 ≤ n ∧ a + 1 + 1 + m = j + 1 ∧ a + 1 + (m + 1) = j + 1 := by omega
theorem set_mid {α : Type} (A : List α) (m : α) (B : List α) (x : α) : (A ++ m :: B).set A.length x = A ++ x :: B := by
  rw [List.set_append_right _ _ (Nat.le_refl _), Nat.sub_self]; rfl
theorem c_DeleteFunc (xs : List File) (l g : Nat) (cap : Option Nat) (gf : Nat) (caps : List Nat) (p : File → Bool) (h0 : AH) (hl : h0[l]? = some (.own g 125 3 cap (xs.map fileC))) (hn : xs.length ≤ 1000000000) (hp : CloB gf caps h0 p) (hcl : l ∉ caps) (hct : caps.all (fun c => decide (c < h0.length)) = true)
    (K : AV → AH → Prop) (hk : ∀ rest : List File, K (.one (.sl l g 0 (xs.filter fun x => !p x).length)) (h0.set l (.own g 125 3 cap ((xs.filter (fun x => !p x) ++ rest).map fileC)))) : ACalls Tryz.prog 167 [.one (.sl l g 0 xs.length), .one (.clo gf caps)] h0 K := by
  have hlt := (List.getElem?_eq_some_iff.1 hl).1
  have hall : ∀ o, (h0.set l o)[l]? = some o := set_at hl
  refine acall_m Tryz.f167.results.toList mixed Tryz.func167 rfl rfl (by kernel_rfl) ?_
  intro hwf Q hQ
  simp only [go_sem, hl]
  refine call_h (c_IndexFunc_sl xs l g cap gf caps p h0 hl hn hp _ ?_)
  simp only [go_sem]
  rcases findG_cases p xs with ⟨hf, hx⟩ | ⟨i0, hi0, hf, hx, hx2⟩
  · (try simp only [go_sem, hf, BEq.rfl]); repeat' (first | (with_reducible first | refine c_split ?_ ?_ | refine w_split ?_ ?_) <;> intro hb <;> try simp only [go_sem, hb, hf, BEq.rfl] | fail)
    refine hQ (h0) _ _ ?_; refine GC.now (ret_m (by simp only [go_sem, Tryz.f167, hlt]; exact _root_.id rfl) (by simp only [go_sem]) (by simp) (by first | exact hwf | exact wf_set hwf (by simp only [go_sem, hlt]) | exact wf_set2 hwf (by simp only [go_sem, hlt]) (by simp only [go_sem, hlt]) | (simp only [go_sem]; done)) (by first | exact ⟨_, _root_.id rfl⟩ | exact ⟨[], (List.append_nil _).symm⟩) ?_) <;> simp only [go_sem, hlt]
    have := hk []
    rw [hx, List.append_nil, set_same hl] at this
    exact this
  have h1 : ((i0 : Int) == -1) = false := by simp
  have hw := wrap_nat i0 (by omega)
  have hmin : (xs.take i0).length = i0 := by simp; omega
  have hsp : xs.take i0 ++ xs[i0] :: xs.drop (i0 + 1) = xs := by rw [← List.drop_eq_getElem_cons hi0, List.take_append_drop]
  (try simp only [go_sem, hf, h1, hw]); repeat' (first | (with_reducible first | refine c_split ?_ ?_ | refine w_split ?_ ?_) <;> intro hb <;> try simp only [go_sem, hb, hf, h1, hw] | fail)
  refine while_at (α := Nat × File × List File) (fun ⟨j, m, mid⟩ => xs.length - j) [0, 1] (fun ⟨j, m, mid⟩ f h => f 5 = (.one (.c (.int .i64 ((((xs.take j).filter fun x => !p x).length : Nat))))) ∧ f 6 = (.one (.c (.int .i64 (j)))) ∧ h = h0.set l (.own g 125 3 cap (((xs.take j).filter (fun x => !p x) ++ m :: (mid ++ xs.drop j)).map fileC)) ∧ j ≤ xs.length ∧ ((xs.take j).filter fun x => !p x).length + 1 + mid.length = j) (i0 + 1, xs[i0], []) (GC.now ?_) ?_
  · simp only [go_sem, nc_0, true_and, hall, hlt, hct, tr_clo, ca_clos]
    rw [hx2]; simp only [hmin, hsp, List.nil_append, set_same hl, true_and]; exact ⟨by omega, by simp⟩
  · rintro ⟨j, m, mid⟩ f h J hA ⟨e5, e6, rfl, hP⟩ hJ
    simp only [go_sem, hall, hlt, hct, tr_clo, ca_clos] at hA
    try dsimp only at hJ
    simp only [go_sem, hA, e5, e6, hall, hlt, hct, tr_clo, ca_clos]
    obtain ⟨hj, hjm⟩ := hP
    generalize hAf : (xs.take j).filter (fun x => !p x) = A at *
    refine c_split (fun hb => ?_) (fun hb => ?_)
    · have hi := lt_len hb
      obtain ⟨ar1, ar2, hAi, ar4, ar5, ar6, ar7⟩ := del_arith hjm hi hn
      have hw := wrap_nat j ar2
      have hil : (j : Int) < (xs.length : Int) := Int.ofNat_lt.2 hi
      have hgj : (A ++ m :: (mid ++ xs.drop j))[j]? = some xs[j] := by
        rw [show A ++ m :: (mid ++ xs.drop j) = (A ++ m :: mid) ++ xs.drop j by simp, List.getElem?_append_right (by simp; omega), List.drop_eq_getElem_cons hi]
        rw [show j - (A ++ m :: mid).length = 0 by simp; omega]; rfl
      have hcap : ∀ o a, ∀ c ∈ caps, (h0.set l o ++ a)[c]? = h0[c]? := fun o a c hc => by
        have h1 : c < h0.length := by simpa using List.all_eq_true.1 hct c hc
        rw [List.getElem?_append_left (by simpa using h1), List.getElem?_set_ne (by rintro rfl; exact hcl hc)]
      have htk : (xs.take (j + 1)).filter (fun x => !p x) = A ++ (if p xs[j] = true then [] else [xs[j]]) := by
        rw [List.take_succ_eq_append_getElem hi, List.filter_append, hAf]
        cases hpj : p xs[j] <;> simp [hpj]
      have hmid : mid ++ xs.drop j = (mid ++ [xs[j]]) ++ xs.drop (j + 1) := by rw [List.drop_eq_getElem_cons hi]; simp
      have hnew : ∀ (o : AO) (a : AO), (h0.set l o ++ [a])[h0.length]? = some a := fun o a => by rw [List.getElem?_append_right (by simp)]; simp
      have hset : ∀ (o : AO) (a b : AO), (h0.set l o ++ [a]).set h0.length b = h0.set l o ++ [b] := fun o a b => by rw [List.set_append_right _ _ (by simp)]; simp
      have hold : ∀ (o : AO) (a : List AO), (h0.set l o ++ a)[l]? = some o := fun o a => h_old a (hall o)
      have hset2 : ∀ (o b : AO) (a : List AO), (h0.set l o ++ a).set l b = h0.set l b ++ a := fun o b a => by rw [List.set_append_left _ _ (by simpa using hlt)]; simp
      have hgA : (A ++ m :: (mid ++ xs.drop j))[A.length]? = some m := by rw [List.getElem?_append_right (Nat.le_refl _), Nat.sub_self]; rfl
      simp only [go_sem, hb, hA, e5, e6, hall, hlt, hct, tr_clo, ca_clos, hgj]
      simp only [go_sem, hA, e5, e6, hall, hlt, hct, tr_clo, ca_clos, hil, hgj, hnew, hset]
      refine hp _ _ _ (hcap _ _) ?_
      (try simp only [go_sem, hA, e5, e6, hall, hlt, hct, tr_clo, ca_clos, hgj, hAi, hgA, set_mid, hnew, hset, hold, hset2]); repeat' (first | (with_reducible first | refine c_split ?_ ?_ | refine w_split ?_ ?_) <;> intro hb <;> try simp only [go_sem, hb, hA, e5, e6, hall, hlt, hct, tr_clo, ca_clos, hgj, hAi, hgA, set_mid, hnew, hset, hold, hset2] | fail)
      · have hpj : p xs[j] = false := by simpa using hb
        have htk2 : (xs.take (j + 1)).filter (fun x => !p x) = A ++ [xs[j]] := by rw [htk, hpj]; rfl
        obtain ⟨m', mid', e⟩ : ∃ m' mid', mid ++ [xs[j]] = m' :: mid' := by cases mid with
          | nil => exact ⟨_, _, rfl⟩
          | cons a r => exact ⟨_, _, rfl⟩
        have e2 : A ++ xs[j] :: (mid ++ xs.drop j) = (A ++ [xs[j]]) ++ m' :: (mid' ++ xs.drop (j + 1)) := by rw [hmid, e]; simp
        have hl2 : mid'.length = mid.length := by have := congrArg List.length e; simp only [List.length_append, List.length_cons, List.length_nil, Nat.zero_add] at this; exact (Nat.succ.inj this).symm
        have hwA := wrap_nat A.length ar1
        have hA1 : (A ++ [xs[j]]).length = A.length + 1 := by simp
        refine gc_trim h0.length (Nat.le_refl _) (by simp) (by rw [take_app _ _ (by simp)]; first | exact hwf | exact wf_set hwf (by simp only [go_sem, htk2, hwA, hA1, e2])) (hJ (j + 1, m', mid') _ _ (by exact ar4) (by simp only [go_sem, hA, e5, e6, hall, hlt, hct, tr_clo, ca_clos, htk2, hwA, hA1, e2]) ⟨?_, ?_, ?_, ?_⟩) <;> try simp only [go_sem, take_app, hA, e5, e6, hall, hlt, hct, tr_clo, ca_clos, hw, htk2, hwA, hA1, e2]
        exact ⟨ar5, by rw [hl2]; exact ar6⟩
      · have hpj : p xs[j] = true := by simpa using hb
        have htk2 : (xs.take (j + 1)).filter (fun x => !p x) = A := by rw [htk, hpj]; simp
        have e2 : A ++ m :: (mid ++ xs.drop j) = A ++ m :: (mid ++ [xs[j]] ++ xs.drop (j + 1)) := by rw [hmid]
        refine gc_trim h0.length (Nat.le_refl _) (by simp) (by rw [take_app _ _ (by simp)]; first | exact hwf | exact wf_set hwf (by simp only [go_sem, htk2, e2])) (hJ (j + 1, m, mid ++ [xs[j]]) _ _ (by exact ar4) (by simp only [go_sem, hA, e5, e6, hall, hlt, hct, tr_clo, ca_clos, htk2, e2]) ⟨?_, ?_, ?_, ?_⟩) <;> try simp only [go_sem, take_app, hA, e5, e6, hall, hlt, hct, tr_clo, ca_clos, hw, htk2, e2]
        exact ⟨ar5, ar7⟩
    · simp only [go_sem, hb, hA, e5, e6, hall, hlt, hct, tr_clo, ca_clos]
      obtain rfl := ge_len hb hj
      rw [List.take_length] at hAf
      subst hAf
      have hz : ((xs.filter fun x => !p x) ++ m :: (mid ++ xs.drop xs.length)).length = xs.length := by rw [List.drop_length]; simp; omega
      have hA0 : (xs.filter fun x => !p x).length < xs.length := by omega
      have hA1 : (xs.filter fun x => !p x).length ≤ xs.length := Nat.le_of_lt hA0
      have hd0 : xs.drop xs.length = [] := List.drop_length
      rw [hd0] at hz ⊢
      rw [List.append_nil] at hz ⊢
      have hle : (List.filter (fun x => !p x) xs ++ m :: mid).length = xs.length := hz
      simp only [go_sem, hall, hA0, hA1, hd0, hz]
      refine cr_sl (by decide) (hall _) (by simp only [List.length_map, hle]; omega) ?_
      rw [cset_end _ _ _ (by simp only [List.length_map, hle, List.length_replicate]; omega)]
      have htk3 : (List.map fileC (xs.filter (fun x => !p x) ++ m :: mid)).take (xs.filter fun x => !p x).length = (xs.filter fun x => !p x).map fileC := by rw [← List.map_take, List.take_left]
      have hrep := fileC_rep (xs.length - (xs.filter fun x => !p x).length) 0 ⟨#[]⟩ ⟨#[]⟩
      rw [htk3, hrep, ← List.map_append]
      have hl3 : (xs.filter (fun x => !p x) ++ List.replicate (xs.length - (xs.filter fun x => !p x).length) (⟨0, ⟨#[]⟩, ⟨#[]⟩⟩ : File)).length = xs.length := by simp; omega
      (try simp only [go_sem, hA, e5, e6, hall, hlt, hct, tr_clo, ca_clos, hA1, hl3, Nat.zero_add]); repeat' (first | (with_reducible first | refine c_split ?_ ?_ | refine w_split ?_ ?_) <;> intro hb <;> try simp only [go_sem, hb, hA, e5, e6, hall, hlt, hct, tr_clo, ca_clos, hA1, hl3, Nat.zero_add] | fail)
      refine hQ (h0.set l (.own g 125 3 cap ((xs.filter (fun x => !p x) ++ List.replicate (xs.length - (xs.filter fun x => !p x).length) (⟨0, ⟨#[]⟩, ⟨#[]⟩⟩ : File)).map fileC))) _ _ ?_; refine GC.now (ret_m (by simp only [go_sem, Tryz.f167, hlt]; exact _root_.id rfl) (by simp only [go_sem]) (by simp) (by first | exact hwf | exact wf_set hwf (by simp only [go_sem, hlt]) | exact wf_set2 hwf (by simp only [go_sem, hlt]) (by simp only [go_sem, hlt]) | (simp only [go_sem]; done)) (by first | exact ⟨_, _root_.id rfl⟩ | exact ⟨[], (List.append_nil _).symm⟩) ?_) <;> simp only [go_sem, hlt]
      exact hk _
theorem c_IndexInts (xs : List Int) (v : Int) (hn : xs.length ≤ 1000000000) (K : AV → AH → Prop) (hk : K (.one (.c (.int .i64 (findG (fun x => v == x) xs)))) []) : ACalls Tryz.prog 221 [(.one (.im (xs.map intC))), (.one (.c (.int .i64 (v))))] [] K := by
  refine acall_c Tryz.f221.results.toList mixed Tryz.func221 rfl rfl (by kernel_rfl) ?_
  intro Q hQ hQO
  simp only [go_sem]
  refine for_at (xs.length) [0, 1, 7] (fun i f h => f 8 = (.one (.c (.int .i64 (i)))) ∧ h = [] ∧ noneTo (fun x => v == x) xs i) (GC.now ?_) ?_
  · simp only [go_sem, nc_0, true_and]
    exact noneTo_0 _ _
  · rintro i f h J hi hA ⟨e8, rfl, hP⟩ hJ
    simp only [go_sem] at hA
    simp only [go_sem, hA, e8]
    refine c_split (fun hb => ?_) (fun hb => ?_)
    rotate_left
    · simp only [go_sem, hb, hA, e8]
      obtain rfl := ge_len hb hi
      (try simp only [go_sem, hA, e8]); repeat' (first | (with_reducible first | refine c_split ?_ ?_ | refine w_split ?_ ?_) <;> intro hb <;> try simp only [go_sem, hb, hA, e8] | with_reducible refine hQ _ _ ?_ <;> simp only [Tryz.f221, go_sem, hA, e8])
      rw [findG_no hP] at hk
      exact hk
    have hi := lt_len hb
    have hw := wrap_nat i (by omega)
    have hil : (i : Int) < ((xs.length : Nat) : Int) := Int.ofNat_lt.2 hi
    have hg0 : (xs)[i]? = some ((xs)[i]) := List.getElem?_eq_getElem (by omega)
    simp only [go_sem, hb, hA, e8, hg0]
    try simp only [go_sem, hA, e8, hil, hg0]
    (try simp only [go_sem, hA, e8, hil, hg0]); repeat' (first | (with_reducible first | refine c_split ?_ ?_ | refine w_split ?_ ?_) <;> intro hb <;> try simp only [go_sem, hb, hA, e8, hil, hg0] | with_reducible refine hQ _ _ ?_ <;> simp only [Tryz.f221, go_sem, hA, e8, hil, hg0])
    · rw [findG_of hP hi hb] at hk
      exact hk
    · refine GC.now (hJ _ _ hi (by simp only [go_sem, hA, e8]) ⟨?_, ?_, ?_⟩) <;> try simp only [go_sem, hA, e8, hw]
      exact noneTo_s hP hi hb
theorem findG_mem (xs : List Int) (v : Int) : decide (0 ≤ findG (fun x => v == x) xs) = decide (v ∈ xs) := by
  unfold findG
  cases hf : xs.findIdx? (fun x => v == x) with
  | none =>
    rw [List.findIdx?_eq_none_iff] at hf
    have : ¬ v ∈ xs := fun hm => by have := hf v hm; simp at this
    simp [this]
  | some i =>
    rw [List.findIdx?_eq_some_iff_getElem] at hf
    obtain ⟨hi, h1, _⟩ := hf
    have : v ∈ xs := by rw [eq_of_beq h1]; exact List.getElem_mem hi
    simp [this]
theorem c_ContainsInts (xs : List Int) (v : Int) (hn : xs.length ≤ 1000000000) (K : AV → AH → Prop) (hk : K (.one (.c (.bool (decide (v ∈ xs))))) []) : ACalls Tryz.prog 171 [(.one (.im (xs.map intC))), (.one (.c (.int .i64 (v))))] [] K := by
  refine acall_c Tryz.f171.results.toList mixed Tryz.func171 rfl rfl (by kernel_rfl) ?_
  intro Q hQ hQO
  simp only [go_sem]
  (try simp only [go_sem]); repeat' (first | (with_reducible first | refine c_split ?_ ?_ | refine w_split ?_ ?_) <;> intro hb <;> try simp only [go_sem, hb] | refine call_c (c_IndexInts _ _ hn _ ?_) <;> try simp only [go_sem] | with_reducible refine hQ _ _ ?_ <;> simp only [Tryz.f171, go_sem])
  rw [findG_mem]
  exact hk
def goneP (keep : List Int) (f : File) : Bool := decide (0 ≤ f.name ∧ f.name ≤ 19) && !decide (f.name ∈ keep)
theorem c_SegsClear1 (f : File) (keep : List Int) (hn : keep.length ≤ 1000000000) (h0 : AH) (c : Nat) (hc : h0[c]? = some (.own 0 163 1 (some 1) [[.im (keep.map intC)]])) (K : AV → AH → Prop) (hk : K (.one (.c (.bool (goneP keep f)))) h0) : ACalls Tryz.prog 170 [.agg (fileC f), .one (.pt c 0 0 0)] h0 K := by
  refine acall_m Tryz.f170.results.toList mixed Tryz.func170 rfl rfl (by kernel_rfl) ?_
  intro hwf Q hQ
  simp only [go_sem, fun a => h_old a hc]
  (try simp only [go_sem, fun a => h_old a hc]); repeat' (first | (with_reducible first | refine c_split ?_ ?_ | refine w_split ?_ ?_) <;> intro hb <;> try simp only [go_sem, hb, fun a => h_old a hc] | (first | refine call_c (c_isSeg _ _ ?_) | refine call_c (c_ContainsInts _ _ hn _ ?_) | fail) <;> try simp only [go_sem, fun a => h_old a hc] | fail)
  · refine hQ (h0) _ _ ?_; refine GC.now (ret_m (by simp only [go_sem, Tryz.f170]; exact _root_.id rfl) (by simp only [go_sem]) (by simp) (by first | exact hwf | exact wf_set hwf (by simp only [go_sem]) | exact wf_set2 hwf (by simp only [go_sem]) (by simp only [go_sem]) | (simp only [go_sem]; done)) (by first | exact ⟨_, _root_.id rfl⟩ | exact ⟨[], (List.append_nil _).symm⟩) ?_) <;> simp only [go_sem]
    refine kB hk ?_
    rw [goneP, hb]; rfl
  · refine hQ (h0) _ _ ?_; refine GC.now (ret_m (by simp only [go_sem, Tryz.f170]; exact _root_.id rfl) (by simp only [go_sem]) (by simp) (by first | exact hwf | exact wf_set hwf (by simp only [go_sem]) | exact wf_set2 hwf (by simp only [go_sem]) (by simp only [go_sem]) | (simp only [go_sem]; done)) (by first | exact ⟨_, _root_.id rfl⟩ | exact ⟨[], (List.append_nil _).symm⟩) ?_) <;> simp only [go_sem]
    refine kB hk ?_
    rw [goneP, hb]; rfl
def clearFiles (keep : List Int) (fs : List File) : List File := fs.filter fun f => !goneP keep f
def clearDisk (d : Disk) (keep : List Int) : Disk := if diskOk d = true ∧ keep.length ≤ 20 then ⟨d.room, clearFiles keep d.files⟩ else ⟨0, []⟩
theorem c_impl_SegsClear (d : Disk) (keep : List Int) (hn : d.files.length ≤ 1000000000) (hk0 : keep.length ≤ 1000000000) (K : AV → AH → Prop)
    (hk : K (.agg [.c (.int .i64 ((clearDisk d keep).room)), .sl 0 0 0 (clearDisk d keep).files.length]) [.own 0 125 3 none ((clearDisk d keep).files.map fileC)]) : ACalls Tryz.prog 88 [.agg (diskC d), (.one (.im (keep.map intC)))] [] K := by
  refine acall_c Tryz.f88.results.toList mixed Tryz.func88 rfl rfl (by kernel_rfl) ?_
  intro Q hQ hQO
  simp only [go_sem]
  (try simp only [go_sem]); repeat' (first | (with_reducible first | refine c_split ?_ ?_ | refine w_split ?_ ?_) <;> intro hb <;> try simp only [go_sem, hb] | (first | refine call_c (c_impl_DiskOk d hn _ ?_) | refine call_c (c_cloneDisk d hn _ (fun cap => ?_)) | fail) <;> try simp only [go_sem] | fail)
  · refine hQO [3] _ _ (GC.step (Ghost.nlc (l := 2) rfl 0 1 rfl rfl 125 3) (GC.now ?_)) <;> simp only [Tryz.f88, go_sem, List.nodup_cons, List.nodup_nil, List.mem_cons, List.not_mem_nil, or_false, not_false_eq_true, List.idxOf?_cons, List.idxOf?_nil, Option.map_none]
    rw [clearDisk, if_neg (fun q => by simp [q.1] at hb)] at hk
    exact hk
  · refine hQO [3] _ _ (GC.step (Ghost.nlc (l := 2) rfl 0 1 rfl rfl 125 3) (GC.now ?_)) <;> simp only [Tryz.f88, go_sem, List.nodup_cons, List.nodup_nil, List.mem_cons, List.not_mem_nil, or_false, not_false_eq_true, List.idxOf?_cons, List.idxOf?_nil, Option.map_none]
    rw [clearDisk, if_neg (fun q => by have := of_decide_eq_true hb; omega)] at hk
    exact hk
  · rename_i hb1
    rw [clearDisk, if_pos (by constructor <;> simp at hb hb1 <;> first | assumption | omega)] at hk
    refine call_h (c_DeleteFunc d.files 3 0 cap _ _ (goneP keep) _ rfl hn ?_ (by decide) rfl _ (fun rest => ?_))
    · intro h1 x K' hcap hk'
      refine .inr (.inl ⟨rfl, c_SegsClear1 x keep hk0 h1 1 ?_ _ hk'⟩)
      exact (hcap 1 (by simp)).trans rfl
    · simp only [go_sem]
      (try simp only [go_sem]); repeat' (first | (with_reducible first | refine c_split ?_ ?_ | refine w_split ?_ ?_) <;> intro hb <;> try simp only [go_sem, hb] | fail)
      have htk : (List.map fileC (d.files.filter (fun f => !goneP keep f) ++ rest)).take (d.files.filter fun f => !goneP keep f).length = (d.files.filter fun f => !goneP keep f).map fileC := by rw [← List.map_take, List.take_left]
      refine hQO [3] _ _ (GC.step (Ghost.cut (l := 3) rfl (d.files.filter fun f => !goneP keep f).length) (GC.now ?_)) <;> simp only [Tryz.f88, go_sem, List.nodup_cons, List.nodup_nil, List.mem_cons, List.not_mem_nil, or_false, not_false_eq_true, List.idxOf?_cons, List.idxOf?_nil, Option.map_none, htk]
      exact hk
theorem take_filter {α : Type} (p : α → Bool) (xs : List α) (i : Nat) (hi : i < xs.length) : (xs.take (i + 1)).filter p = (xs.take i).filter p ++ (if p xs[i] = true then [xs[i]] else []) := by
  rw [List.take_succ_eq_append_getElem hi, List.filter_append]
  cases h : p xs[i] <;> simp [h]
theorem c_spec_SegsClear (d : Disk) (keep : List Int) (hn : d.files.length ≤ 1000000000) (hk0 : keep.length ≤ 1000000000) (K : AV → AH → Prop)
    (hk : K (.agg (diskC (clearDisk d keep))) []) : ACalls Tryz.prog 80 [.agg (diskC d), (.one (.im (keep.map intC)))] [] K := by
  refine acall_c Tryz.f80.results.toList mixed Tryz.func80 rfl rfl (by kernel_rfl) ?_
  intro Q hQ hQO
  simp only [go_sem]
  (try simp only [go_sem]); repeat' (first | (with_reducible first | refine c_split ?_ ?_ | refine w_split ?_ ?_ | refine tw_split ?_ ?_) <;> intro hb <;> try simp only [go_sem, hb] | (first | with_reducible refine d80_0_LClear (by with_unfolding_all rfl) (by kernel_rfl) ?_ | refine call_c (c_spec_DiskOk d hn _ ?_) | fail) <;> try simp only [go_sem] | with_reducible refine hQ _ _ ?_ <;> simp only [Tryz.f80, go_sem])
  · rw [clearDisk, if_neg (fun q => by simp [q.1] at hb)] at hk
    exact hk
  · rw [clearDisk, if_neg (fun q => by have := of_decide_eq_true hb; omega)] at hk
    exact hk
  rename_i hb1
  have hd1 : diskOk d = true := by simpa using hb1
  have hd2 : keep.length ≤ 20 := by have := of_decide_eq_false hb; omega
  rw [clearDisk, if_pos ⟨hd1, hd2⟩] at hk
  refine for_at (d.files.length) [1, 2, 4, 5] (fun i f h => f 6 = (.one (.c (.int .i64 (i)))) ∧ h = [.own 0 24 2 (some 1) [diskC d], .own 0 24 2 (some 1) [[.c (.int .i64 (0)), .nl]], .own 0 24 2 (some 1) [[.c (.int .i64 (d.room)), .sl 3 (clearFiles keep (d.files.take i)).length 0 (clearFiles keep (d.files.take i)).length]], .own (clearFiles keep (d.files.take i)).length 125 3 none ((clearFiles keep (d.files.take i)).map fileC)]) (GC.step (Ghost.nlc (l := 2) rfl 0 1 rfl rfl 125 3) (GC.now ?_)) ?_
  · simp only [go_sem, nc_0, true_and]
    rfl
  · rintro i f h J hi hA ⟨e6, rfl⟩ hJ
    simp only [go_sem] at hA
    simp only [go_sem, hA, e6]
    refine c_split (fun hb => ?_) (fun hb => ?_)
    rotate_left
    · simp only [go_sem, hb, hA, e6]
      obtain rfl := ge_len hb hi
      (try simp only [go_sem, hA, e6, List.take_length]); repeat' (first | (with_reducible first | refine c_split ?_ ?_ | refine w_split ?_ ?_ | refine tw_split ?_ ?_) <;> intro hb <;> try simp only [go_sem, hb, hA, e6, List.take_length] | with_reducible refine d80_0_LClear (by with_unfolding_all rfl) (by kernel_rfl) ?_ <;> try simp only [go_sem, hA, e6, List.take_length] | with_reducible refine hQ _ _ ?_ <;> simp only [Tryz.f80, go_sem, hA, e6, List.take_length])
      exact hk
    have hi := lt_len hb
    have hw := wrap_nat i (by omega)
    have hil : (i : Int) < ((d.files.length : Nat) : Int) := Int.ofNat_lt.2 hi
    have hg0 : (d.files)[i]? = some ((d.files)[i]) := List.getElem?_eq_getElem (by omega)
    simp only [go_sem, hb, hA, e6, hg0]
    try simp only [go_sem, hA, e6, hil, hg0]
    have htk := take_filter (fun f => !goneP keep f) d.files i hi
    have hkeep : ∀ q, goneP keep d.files[i] = q → clearFiles keep (d.files.take (i + 1)) = clearFiles keep (d.files.take i) ++ (if q = true then [] else [d.files[i]]) := fun q hq => by
      simp only [clearFiles]
      rw [htk, hq]
      cases q <;> rfl
    have hlen : (clearFiles keep (d.files.take i)).length ≤ i := by
      have := List.length_filter_le (fun f => !goneP keep f) (d.files.take i)
      simp only [List.length_take] at this
      simp only [clearFiles]
      omega
    (try simp only [go_sem, hA, e6, hil, hg0]); repeat' (first | (with_reducible first | refine c_split ?_ ?_ | refine w_split ?_ ?_ | refine tw_split ?_ ?_) <;> intro hb <;> try simp only [go_sem, hb, hA, e6, hil, hg0] | (first | with_reducible refine d80_0_LClear (by with_unfolding_all rfl) (by kernel_rfl) ?_ | refine call_c (c_l15Seg _ _ ?_) | refine call_c (c_l4Has _ _ hk0 _ ?_) | fail) <;> try simp only [go_sem, hA, e6, hil, hg0] | fail)
    · have hq : goneP keep d.files[i] = false := by rw [goneP, show decide (0 ≤ d.files[i].name ∧ d.files[i].name ≤ 19) = false by simpa only [Bool.not_eq_true'] using hb]; rfl
      have hk2 := hkeep _ hq
      simp only [Bool.false_eq_true, if_false] at hk2
      refine ap_end rfl (by simp) (by simp; omega) ?_
      (try simp only [go_sem, hA, e6, hil, hg0]); repeat' (first | (with_reducible first | refine c_split ?_ ?_ | refine w_split ?_ ?_ | refine tw_split ?_ ?_) <;> intro hb <;> try simp only [go_sem, hb, hA, e6, hil, hg0] | with_reducible refine d80_0_LClear (by with_unfolding_all rfl) (by kernel_rfl) ?_ <;> try simp only [go_sem, hA, e6, hil, hg0] | fail)
      refine gc_trim 4 (by decide) (by simp only [go_sem]) (by simp only [go_sem]) (hJ _ _ hi (by simp only [go_sem, hA, e6]) ⟨?_, ?_⟩) <;> try simp only [go_sem, hA, e6, hw, hk2]
    · rename_i hb2
      have hq : goneP keep d.files[i] = false := by rw [goneP, hb]; simp
      have hk2 := hkeep _ hq
      simp only [Bool.false_eq_true, if_false] at hk2
      refine ap_end rfl (by simp) (by simp; omega) ?_
      (try simp only [go_sem, hA, e6, hil, hg0]); repeat' (first | (with_reducible first | refine c_split ?_ ?_ | refine w_split ?_ ?_ | refine tw_split ?_ ?_) <;> intro hb <;> try simp only [go_sem, hb, hA, e6, hil, hg0] | with_reducible refine d80_0_LClear (by with_unfolding_all rfl) (by kernel_rfl) ?_ <;> try simp only [go_sem, hA, e6, hil, hg0] | fail)
      refine gc_trim 4 (by decide) (by simp only [go_sem]) (by simp only [go_sem]) (hJ _ _ hi (by simp only [go_sem, hA, e6]) ⟨?_, ?_⟩) <;> try simp only [go_sem, hA, e6, hw, hk2]
    · rename_i hb2
      have hq : goneP keep d.files[i] = true := by rw [goneP, hb, show decide (0 ≤ d.files[i].name ∧ d.files[i].name ≤ 19) = true by simpa using hb2]; rfl
      have hk2 := hkeep _ hq
      simp only [if_true, List.append_nil] at hk2
      refine gc_trim 4 (by decide) (by simp only [go_sem]) (by simp only [go_sem]) (hJ _ _ hi (by simp only [go_sem, hA, e6]) ⟨?_, ?_⟩) <;> try simp only [go_sem, hA, e6, hw, hk2]
end Go.Proofs.YtlefjpbhbiajfaaGreat
end
section
namespace Go.Proofs.YtlefjpbhbiajfaaGreat
open Go.BL Go.RowKit
set_option linter.unusedVariables false
set_option linter.unusedSimpArgs false
set_option maxRecDepth 100000
attribute [local go_sem] accountC balC lotC tradeC
theorem okL_mono {α : Type} {p : α → Bool} {lt : α → α → Bool} {m : Int} {xs : List α} (tr : ∀ x y z, lt x y = true → lt y z = true → lt x z = true) (h : okL p lt m xs = true) : ∀ (d i : Nat) (hj : i + d + 1 < xs.length), lt (xs[i]'(by omega)) xs[i + d + 1] = true
  | 0, i, hj => okL_lt h hj
  | d + 1, i, hj => tr _ _ _ (okL_mono tr h d i (by omega)) (okL_lt h (j := i + d + 1) (by omega))
theorem pairLt_iff {a b c d : Int} : pairLt a b c d = true ↔ a < c ∨ a = c ∧ b < d := by simp [pairLt]
theorem balLt_tr (x y z : Bal) (h1 : balLt x y = true) (h2 : balLt y z = true) : balLt x z = true := by
  unfold balLt at *
  rw [pairLt_iff] at *
  omega
def balIs (a n : Int) (x : Bal) : Bool := x.account == a && x.instr == n
def balV (xs : List Bal) (a n : Int) : Int := match xs.find? (balIs a n) with | some x => x.amount | none => 0
theorem balIs_iff {a n : Int} {x : Bal} : balIs a n x = true ↔ x.account = a ∧ x.instr = n := by simp [balIs]
theorem bal_uniq {xs : List Bal} (h : balsOk xs = true) {i j : Nat} (hi : i < xs.length) (hj : j < xs.length) {a n : Int} (h1 : balIs a n xs[i] = true) (h2 : balIs a n xs[j] = true) : i = j := by
  have key : ∀ {i j : Nat} (hi : i < xs.length) (hj : j < xs.length), balIs a n xs[i] = true → balIs a n xs[j] = true → ¬ i < j := by
    intro i j hi hj h1 h2 hij
    obtain ⟨d, rfl⟩ : ∃ d, j = i + d + 1 := ⟨j - i - 1, by omega⟩
    have := okL_mono balLt_tr h d i hj
    rw [balIs_iff] at h1 h2
    unfold balLt at this
    rw [pairLt_iff] at this
    omega
  have k1 := key hi hj h1 h2
  have k2 := key hj hi h2 h1
  omega
theorem balV_at {xs : List Bal} (h : balsOk xs = true) {i : Nat} (hi : i < xs.length) {a n : Int} (h1 : balIs a n xs[i] = true) : balV xs a n = xs[i].amount := by
  unfold balV
  cases hf : xs.find? (balIs a n) with
  | none => exact absurd h1 ((List.find?_eq_none.1 hf) _ (List.getElem_mem hi))
  | some y =>
    obtain ⟨j, hj, rfl⟩ := List.mem_iff_getElem.1 (List.mem_of_find?_eq_some hf)
    have := bal_uniq h hi hj h1 (List.find?_some hf)
    subst this; rfl
theorem balV_no {xs : List Bal} {a n : Int} (h : ∀ x ∈ xs, balIs a n x = false) : balV xs a n = 0 := by
  have : xs.find? (balIs a n) = none := by rw [List.find?_eq_none]; intro x hx; rw [h x hx]; decide
  rw [balV, this]
theorem c_balAt (xs : List Bal) (a n : Int) (hn : xs.length ≤ 1000000000) (hok : balsOk xs = true) (K : AV → AH → Prop) (hk1 : ∀ (k : Nat) (hi : k < xs.length), balIs a n xs[k] = true → K (.tup [(.one (.c (.int .i64 ((k : Int))))), (.one (.c (.bool (true))))]) []) (hk2 : ∀ (k : Nat), (∀ x ∈ xs, balIs a n x = false) → K (.tup [(.one (.c (.int .i64 ((k : Int))))), (.one (.c (.bool (false))))]) []) : ACalls Tryz.prog 293 [(.one (.im (xs.map balC))), (.one (.c (.int .i64 (a)))), (.one (.c (.int .i64 (n))))] [] K := by
  refine acall_c Tryz.f293.results.toList mixed Tryz.func293 rfl rfl (by kernel_rfl) ?_
  intro Q hQ hQO
  simp only [go_sem]
  refine for_at (xs.length) [0, 1, 2, 11, 12] (fun i f h => f 13 = (.one (.c (.int .i64 (i)))) ∧ h = [] ∧ ∀ j (hj : j < xs.length), j < i → byBoth xs[j].account xs[j].instr a n < 0) (GC.now ?_) ?_
  · simp only [go_sem, nc_0, true_and]
    intro j hj q; omega
  · rintro i f h J hi hA ⟨e13, rfl, hP⟩ hJ
    simp only [go_sem] at hA
    simp only [go_sem, hA, e13]
    refine c_split (fun hb => ?_) (fun hb => ?_)
    rotate_left
    · simp only [go_sem, hb, hA, e13]
      obtain rfl := ge_len hb hi
      (try simp only [go_sem, hA, e13]); repeat' (first | (with_reducible first | refine c_split ?_ ?_ | refine w_split ?_ ?_) <;> intro hb <;> try simp only [go_sem, hb, hA, e13] | with_reducible refine hQ _ _ ?_ <;> simp only [Tryz.f293, go_sem, hA, e13])
      refine hk2 _ fun x hx => ?_
      obtain ⟨j, hj, rfl⟩ := List.mem_iff_getElem.1 hx
      have := hP j hj hj
      cases hc : balIs a n xs[j] with
      | false => rfl
      | true =>
        have h2 := byBoth_lt.2.2 (balIs_iff.1 hc)
        omega
    have hi := lt_len hb
    have hw := wrap_nat i (by omega)
    have hil : (i : Int) < ((xs.length : Nat) : Int) := Int.ofNat_lt.2 hi
    have hg0 : (xs)[i]? = some ((xs)[i]) := List.getElem?_eq_getElem (by omega)
    simp only [go_sem, hb, hA, e13, hg0]
    try simp only [go_sem, hA, e13, hil, hg0]
    (try simp only [go_sem, hA, e13, hil, hg0]); repeat' (first | (with_reducible first | refine c_split ?_ ?_ | refine w_split ?_ ?_) <;> intro hb <;> try simp only [go_sem, hb, hA, e13, hil, hg0] | refine call_c (c_byBoth _ _ _ _ _ ?_) <;> try simp only [go_sem, hA, e13, hil, hg0] | with_reducible refine hQ _ _ ?_ <;> simp only [Tryz.f293, go_sem, hA, e13, hil, hg0])
    · have hge := of_decide_eq_true hb
      by_cases h0 : byBoth xs[i].account xs[i].instr a n = 0
      · rw [h0]
        exact hk1 i hi (balIs_iff.2 (byBoth_lt.2.1 h0))
      · have hne : (byBoth xs[i].account xs[i].instr a n == 0) = false := beq_false_of_ne h0
        rw [hne]
        refine hk2 i fun x hx => ?_
        obtain ⟨j, hj, rfl⟩ := List.mem_iff_getElem.1 hx
        cases hc : balIs a n xs[j] with
        | false => rfl
        | true =>
          have h2 := byBoth_lt.2.2 (balIs_iff.1 hc)
          rcases Nat.lt_trichotomy j i with q | q | q
          · have := hP j hj q; omega
          · subst q; omega
          · obtain ⟨d, rfl⟩ : ∃ d, j = i + d + 1 := ⟨j - i - 1, by omega⟩
            have h3 := okL_mono balLt_tr hok d i hj
            have h4 := balIs_iff.1 hc
            unfold balLt at h3
            rw [h4.1, h4.2] at h3
            have := byBoth_lt.1.2 h3
            omega
    · have hlt := of_decide_eq_false hb
      refine gc_trim 0 (by decide) (by simp only [go_sem]) (by simp only [go_sem]) (hJ _ _ hi (by simp only [go_sem, hA, e13]) ⟨?_, ?_, ?_⟩) <;> try simp only [go_sem, hA, e13, hw]
      intro j hj q
      by_cases e : j = i
      · subst e; omega
      · exact hP j hj (by omega)
theorem c_balOf (xs : List Bal) (a n : Int) (hn : xs.length ≤ 1000000000) (hok : balsOk xs = true) (K : AV → AH → Prop) (hk : K (.one (.c (.int .i64 (balV xs a n)))) []) : ACalls Tryz.prog 257 [(.one (.im (xs.map balC))), (.one (.c (.int .i64 (a)))), (.one (.c (.int .i64 (n))))] [] K := by
  refine acall_c Tryz.f257.results.toList mixed Tryz.func257 rfl rfl (by kernel_rfl) ?_
  intro Q hQ hQO
  simp only [go_sem]
  (try simp only [go_sem]); repeat' (first | (with_reducible first | refine c_split ?_ ?_ | refine w_split ?_ ?_) <;> intro hb <;> try simp only [go_sem, hb] | fail)
  refine call_c (c_balAt xs a n hn hok _ (fun k hi h => ?_) (fun k h => ?_))
  · have hg : xs[k]? = some xs[k] := List.getElem?_eq_getElem hi
    have hil : (k : Int) < (xs.length : Int) := Int.ofNat_lt.2 hi
    rw [balV_at hok hi h] at hk
    (try simp only [go_sem, hg, hil]); repeat' (first | (with_reducible first | refine c_split ?_ ?_ | refine w_split ?_ ?_) <;> intro hb <;> try simp only [go_sem, hb, hg, hil] | with_reducible refine hQ _ _ ?_ <;> simp only [Tryz.f257, go_sem, hg, hil])
    exact hk
  · rw [balV_no h] at hk
    (try simp only [go_sem]); repeat' (first | (with_reducible first | refine c_split ?_ ?_ | refine w_split ?_ ?_) <;> intro hb <;> try simp only [go_sem, hb] | with_reducible refine hQ _ _ ?_ <;> simp only [Tryz.f257, go_sem])
    exact hk
theorem c_l4Of (xs : List Bal) (a n : Int) (hn : xs.length ≤ 1000000000) (K : AV → AH → Prop) (hk : K (.one (.c (.int .i64 (balV xs a n)))) []) : ACalls Tryz.prog 244 [(.one (.im (xs.map balC))), (.one (.c (.int .i64 (a)))), (.one (.c (.int .i64 (n))))] [] K := by
  refine acall_c Tryz.f244.results.toList mixed Tryz.func244 rfl rfl (by kernel_rfl) ?_
  intro Q hQ hQO
  simp only [go_sem]
  refine for_at (xs.length) [0, 1, 2] (fun i f h => f 7 = (.one (.c (.int .i64 (i)))) ∧ h = [] ∧ noneTo (balIs a n) xs i) (GC.now ?_) ?_
  · simp only [go_sem, nc_0, true_and]
    exact noneTo_0 _ _
  · rintro i f h J hi hA ⟨e7, rfl, hP⟩ hJ
    simp only [go_sem] at hA
    simp only [go_sem, hA, e7]
    refine c_split (fun hb => ?_) (fun hb => ?_)
    rotate_left
    · simp only [go_sem, hb, hA, e7]
      obtain rfl := ge_len hb hi
      (try simp only [go_sem, hA, e7]); repeat' (first | (with_reducible first | refine c_split ?_ ?_ | refine w_split ?_ ?_) <;> intro hb <;> try simp only [go_sem, hb, hA, e7] | with_reducible refine hQ _ _ ?_ <;> simp only [Tryz.f244, go_sem, hA, e7])
      rw [balV, find_no hP] at hk
      exact hk
    have hi := lt_len hb
    have hw := wrap_nat i (by omega)
    have hil : (i : Int) < ((xs.length : Nat) : Int) := Int.ofNat_lt.2 hi
    have hg0 : (xs)[i]? = some ((xs)[i]) := List.getElem?_eq_getElem (by omega)
    simp only [go_sem, hb, hA, e7, hg0]
    try simp only [go_sem, hA, e7, hil, hg0]
    (try simp only [go_sem, hA, e7, hil, hg0]); repeat' (first | (with_reducible first | refine c_split ?_ ?_ | refine w_split ?_ ?_) <;> intro hb <;> try simp only [go_sem, hb, hA, e7, hil, hg0] | with_reducible refine hQ _ _ ?_ <;> simp only [Tryz.f244, go_sem, hA, e7, hil, hg0])
    · rename_i hb1
      rw [balV, find_at hP hi (show (xs[i].account == a && xs[i].instr == n) = true by rw [hb1, hb]; rfl)] at hk
      exact hk
    · rename_i hb1
      refine gc_trim 0 (by decide) (by simp only [go_sem]) (by simp only [go_sem]) (hJ _ _ hi (by simp only [go_sem, hA, e7]) ⟨?_, ?_, ?_⟩) <;> try simp only [go_sem, hA, e7, hw]
      exact noneTo_s hP hi (show (xs[i].account == a && xs[i].instr == n) = false by rw [hb1, hb]; rfl)
    · refine gc_trim 0 (by decide) (by simp only [go_sem]) (by simp only [go_sem]) (hJ _ _ hi (by simp only [go_sem, hA, e7]) ⟨?_, ?_, ?_⟩) <;> try simp only [go_sem, hA, e7, hw]
      exact noneTo_s hP hi (show (xs[i].account == a && xs[i].instr == n) = false by rw [hb]; rfl)
end Go.Proofs.YtlefjpbhbiajfaaGreat
end
section
namespace Go.Proofs.YtlefjpbhbiajfaaGreat
open Go.BL Go.RowKit
set_option linter.unusedVariables false
set_option linter.unusedSimpArgs false
set_option maxRecDepth 100000
attribute [local go_sem] accountC balC lotC tradeC
theorem c_CloneLot (fs : List Lot) (hn : fs.length ≤ 1000000000) (K : AV → AH → Prop) (hk : ∀ cap, K (.one (.sl 0 0 0 fs.length)) [.own 0 137 5 cap (fs.map lotC)]) : ACalls Tryz.prog 211 [(.one (.im (fs.map lotC)))] [] K := by
  refine acall_c Tryz.f211.results.toList mixed Tryz.func211 rfl rfl (by kernel_rfl) ?_
  intro Q hQ hQO
  simp only [go_sem]
  by_cases hf : fs = []
  · subst hf
    simp only [go_sem, nq_im0, nqG]
    intro b
    (try simp only [go_sem]); repeat' (first | (with_reducible first | refine c_split ?_ ?_ | refine w_split ?_ ?_) <;> intro hb <;> try simp only [go_sem, hb] | fail)
    · refine hQO [0] _ _ (GC.step (Ghost.nlr 2 (by simp only [go_sem]) 137 5) (GC.now ?_)) <;> simp only [Tryz.f211, go_sem, List.nodup_cons, List.nodup_nil, List.mem_cons, List.not_mem_nil, or_false, not_false_eq_true, List.idxOf?_cons, List.idxOf?_nil, Option.map_none]
      exact hk _
    · refine ap_end rfl rfl (by decide) ?_
      (try simp only [go_sem]); repeat' (first | (with_reducible first | refine c_split ?_ ?_ | refine w_split ?_ ?_) <;> intro hb <;> try simp only [go_sem, hb] | fail)
      refine hQO [0] _ _ (GC.now ?_) <;> simp only [Tryz.f211, go_sem, List.nodup_cons, List.nodup_nil, List.mem_cons, List.not_mem_nil, or_false, not_false_eq_true, List.idxOf?_cons, List.idxOf?_nil, Option.map_none]
      exact hk _
  · have hne : fs.map lotC ≠ [] := by simpa using hf
    (try simp only [go_sem, nq_im _ hne, nqG]); repeat' (first | (with_reducible first | refine c_split ?_ ?_ | refine w_split ?_ ?_) <;> intro hb <;> try simp only [go_sem, hb, nq_im _ hne, nqG] | fail)
    refine ap_end rfl rfl (by simp; omega) ?_
    (try simp only [go_sem, Nat.zero_add]); repeat' (first | (with_reducible first | refine c_split ?_ ?_ | refine w_split ?_ ?_) <;> intro hb <;> try simp only [go_sem, hb, Nat.zero_add] | fail)
    refine hQO [0] _ _ (GC.now ?_) <;> simp only [Tryz.f211, go_sem, List.nodup_cons, List.nodup_nil, List.mem_cons, List.not_mem_nil, or_false, not_false_eq_true, List.idxOf?_cons, List.idxOf?_nil, Option.map_none]
    exact hk _
theorem c_IndexFuncLot (fs : List Lot) (g : Nat) (caps : List Nat) (p : Lot → Bool) (h0 : AH) (K : AV → AH → Prop) (hn : fs.length ≤ 1000000000)
    (hp : ∀ i (hi : i < fs.length) (K' : AV → AH → Prop), K' (.one (.c (.bool (p fs[i])))) h0 → callA Tryz.prog g ([.agg (lotC fs[i])] ++ caps.map fun l => .one (.pt l 0 0 0)) h0 K')
    (hk : K (.one (.c (.int .i64 (findG p fs)))) h0) : ACalls Tryz.prog 289 [(.one (.im (fs.map lotC))), .one (.clo g caps)] h0 K := by
  refine acall_m Tryz.f289.results.toList mixed Tryz.func289 rfl rfl (by kernel_rfl) ?_
  intro hwf Q hQ
  simp only [go_sem, ca_clos]
  refine for_at (fs.length) [0, 1, 7] (fun i f h => f 8 = (.one (.c (.int .i64 (i)))) ∧ f 7 = (.one (.c (.int .i64 (fs.length)))) ∧ h = h0 ∧ noneTo p fs i) (GC.now ?_) ?_
  · simp only [go_sem, nc_0, true_and, ca_clos]
    exact noneTo_0 p fs
  · rintro i f h J hi hA ⟨e8, e7, rfl, hP⟩ hJ
    simp only [go_sem, ca_clos] at hA
    simp only [go_sem, hA, e8, e7, ca_clos]
    refine c_split (fun hb => ?_) (fun hb => ?_)
    rotate_left
    · simp only [go_sem, hb, hA, e8, e7, ca_clos]
      obtain rfl := ge_len hb hi
      refine hQ (h) _ _ ?_; refine GC.now (ret_m (by simp only [go_sem, Tryz.f289, hA, e8, e7, ca_clos]; exact _root_.id rfl) (by simp only [go_sem]) (by simp) (by first | exact hwf | exact wf_set hwf (by simp only [go_sem, hA, e8, e7, ca_clos]) | exact wf_set2 hwf (by simp only [go_sem, hA, e8, e7, ca_clos]) (by simp only [go_sem, hA, e8, e7, ca_clos]) | (simp only [go_sem]; done)) (by first | exact ⟨_, _root_.id rfl⟩ | exact ⟨[], (List.append_nil _).symm⟩) ?_) <;> simp only [go_sem, hA, e8, e7, ca_clos]
      rw [findG_no hP] at hk
      exact hk
    have hi := lt_len hb
    have hw := wrap_nat i (by omega)
    have hil : (i : Int) < ((fs.length : Nat) : Int) := Int.ofNat_lt.2 hi
    have hg0 : (fs)[i]? = some ((fs)[i]) := List.getElem?_eq_getElem (by omega)
    simp only [go_sem, hb, hA, e8, e7, ca_clos, hg0]
    try simp only [go_sem, hA, e8, e7, ca_clos, hil, hg0]
    refine hp i hi _ ?_
    simp only [go_sem, hA, e8, e7, ca_clos, hil, hg0]
    (try simp only [go_sem, hA, e8, e7, ca_clos, hil, hg0]); repeat' (first | (with_reducible first | refine c_split ?_ ?_ | refine w_split ?_ ?_) <;> intro hb <;> try simp only [go_sem, hb, hA, e8, e7, ca_clos, hil, hg0] | fail)
    · refine hQ (h) _ _ ?_; refine GC.now (ret_m (by simp only [go_sem, Tryz.f289, hA, e8, e7, ca_clos, hil, hg0]; exact _root_.id rfl) (by simp only [go_sem]) (by simp) (by first | exact hwf | exact wf_set hwf (by simp only [go_sem, hA, e8, e7, ca_clos, hil, hg0]) | exact wf_set2 hwf (by simp only [go_sem, hA, e8, e7, ca_clos, hil, hg0]) (by simp only [go_sem, hA, e8, e7, ca_clos, hil, hg0]) | (simp only [go_sem]; done)) (by first | exact ⟨_, _root_.id rfl⟩ | exact ⟨[], (List.append_nil _).symm⟩) ?_) <;> simp only [go_sem, hA, e8, e7, ca_clos, hil, hg0]
      rw [findG_of hP hi hb] at hk
      exact hk
    · refine GC.now (hJ _ _ hi (by simp only [go_sem, hA, e8, e7, ca_clos]) ⟨?_, ?_, ?_, ?_⟩) <;> try simp only [go_sem, hA, e8, e7, ca_clos, hw]
      exact noneTo_s hP hi hb
def CloBLot (g : Nat) (caps : List Nat) (h0 : AH) (p : Lot → Bool) : Prop := ∀ (h1 : AH) (x : Lot) (K' : AV → AH → Prop), (∀ c ∈ caps, h1[c]? = h0[c]?) → K' (.one (.c (.bool (p x)))) h1 → callA Tryz.prog g ([.agg (lotC x)] ++ caps.map fun l => .one (.pt l 0 0 0)) h1 K'
theorem c_IndexFuncLot_sl (xs : List Lot) (l g : Nat) (cap : Option Nat) (gf : Nat) (caps : List Nat) (p : Lot → Bool) (h0 : AH) (hl : h0[l]? = some (.own g 137 5 cap (xs.map lotC))) (hn : xs.length ≤ 1000000000) (hp : CloBLot gf caps h0 p)
    (K : AV → AH → Prop) (hk : K (.one (.c (.int .i64 (findG p xs)))) h0) : ACalls Tryz.prog 289 [.one (.sl l g 0 xs.length), .one (.clo gf caps)] h0 K := by
  refine acall_m Tryz.f289.results.toList mixed Tryz.func289 rfl rfl (by kernel_rfl) ?_
  intro hwf Q hQ
  simp only [go_sem, hl, ca_clos]
  refine for_at (xs.length) [0, 1, 7] (fun i f h => f 8 = (.one (.c (.int .i64 (i)))) ∧ f 7 = (.one (.c (.int .i64 (xs.length)))) ∧ h = h0 ∧ noneTo p xs i) (GC.now ?_) ?_
  · simp only [go_sem, nc_0, true_and, hl, ca_clos]
    exact noneTo_0 p xs
  · rintro i f h J hi hA ⟨e8, e7, rfl, hP⟩ hJ
    simp only [go_sem, hl, ca_clos] at hA
    simp only [go_sem, hA, e8, e7, hl, ca_clos]
    refine c_split (fun hb => ?_) (fun hb => ?_)
    rotate_left
    · simp only [go_sem, hb, hA, e8, e7, hl, ca_clos]
      obtain rfl := ge_len hb hi
      refine hQ (h) _ _ ?_; refine GC.now (ret_m (by simp only [go_sem, Tryz.f289, hA, e8, e7, hl, ca_clos]; exact _root_.id rfl) (by simp only [go_sem]) (by simp) (by first | exact hwf | exact wf_set hwf (by simp only [go_sem, hA, e8, e7, hl, ca_clos]) | exact wf_set2 hwf (by simp only [go_sem, hA, e8, e7, hl, ca_clos]) (by simp only [go_sem, hA, e8, e7, hl, ca_clos]) | (simp only [go_sem]; done)) (by first | exact ⟨_, _root_.id rfl⟩ | exact ⟨[], (List.append_nil _).symm⟩) ?_) <;> simp only [go_sem, hA, e8, e7, hl, ca_clos]
      rw [findG_no hP] at hk
      exact hk
    have hi := lt_len hb
    have hw := wrap_nat i (by omega)
    have hil : (i : Int) < ((xs.length : Nat) : Int) := Int.ofNat_lt.2 hi
    have hg0 : (xs)[i]? = some ((xs)[i]) := List.getElem?_eq_getElem (by omega)
    simp only [go_sem, hb, hA, e8, e7, hl, ca_clos, hg0]
    try simp only [go_sem, hA, e8, e7, hl, ca_clos, hil, hg0]
    refine hp _ _ _ (fun _ _ => rfl) ?_
    simp only [go_sem, hA, e8, e7, hl, ca_clos, hil, hg0]
    (try simp only [go_sem, hA, e8, e7, hl, ca_clos, hil, hg0]); repeat' (first | (with_reducible first | refine c_split ?_ ?_ | refine w_split ?_ ?_) <;> intro hb <;> try simp only [go_sem, hb, hA, e8, e7, hl, ca_clos, hil, hg0] | fail)
    · refine hQ (h) _ _ ?_; refine GC.now (ret_m (by simp only [go_sem, Tryz.f289, hA, e8, e7, hl, ca_clos, hil, hg0]; exact _root_.id rfl) (by simp only [go_sem]) (by simp) (by first | exact hwf | exact wf_set hwf (by simp only [go_sem, hA, e8, e7, hl, ca_clos, hil, hg0]) | exact wf_set2 hwf (by simp only [go_sem, hA, e8, e7, hl, ca_clos, hil, hg0]) (by simp only [go_sem, hA, e8, e7, hl, ca_clos, hil, hg0]) | (simp only [go_sem]; done)) (by first | exact ⟨_, _root_.id rfl⟩ | exact ⟨[], (List.append_nil _).symm⟩) ?_) <;> simp only [go_sem, hA, e8, e7, hl, ca_clos, hil, hg0]
      rw [findG_of hP hi hb] at hk
      exact hk
    · refine GC.now (hJ _ _ hi (by simp only [go_sem, hA, e8, e7, hl, ca_clos]) ⟨?_, ?_, ?_, ?_⟩) <;> try simp only [go_sem, hA, e8, e7, hl, ca_clos, hw]
      exact noneTo_s hP hi hb
theorem c_DeleteFuncLot (xs : List Lot) (l g : Nat) (cap : Option Nat) (gf : Nat) (caps : List Nat) (p : Lot → Bool) (h0 : AH) (hl : h0[l]? = some (.own g 137 5 cap (xs.map lotC))) (hn : xs.length ≤ 1000000000) (hp : CloBLot gf caps h0 p) (hcl : l ∉ caps) (hct : caps.all (fun c => decide (c < h0.length)) = true)
    (K : AV → AH → Prop) (hk : ∀ rest : List Lot, K (.one (.sl l g 0 (xs.filter fun x => !p x).length)) (h0.set l (.own g 137 5 cap ((xs.filter (fun x => !p x) ++ rest).map lotC)))) : ACalls Tryz.prog 290 [.one (.sl l g 0 xs.length), .one (.clo gf caps)] h0 K := by
  have hlt := (List.getElem?_eq_some_iff.1 hl).1
  have hall : ∀ o, (h0.set l o)[l]? = some o := set_at hl
  refine acall_m Tryz.f290.results.toList mixed Tryz.func290 rfl rfl (by kernel_rfl) ?_
  intro hwf Q hQ
  simp only [go_sem, hl]
  refine call_h (c_IndexFuncLot_sl xs l g cap gf caps p h0 hl hn hp _ ?_)
  simp only [go_sem]
  rcases findG_cases p xs with ⟨hf, hx⟩ | ⟨i0, hi0, hf, hx, hx2⟩
  · (try simp only [go_sem, hf, BEq.rfl]); repeat' (first | (with_reducible first | refine c_split ?_ ?_ | refine w_split ?_ ?_) <;> intro hb <;> try simp only [go_sem, hb, hf, BEq.rfl] | fail)
    refine hQ (h0) _ _ ?_; refine GC.now (ret_m (by simp only [go_sem, Tryz.f290, hlt]; exact _root_.id rfl) (by simp only [go_sem]) (by simp) (by first | exact hwf | exact wf_set hwf (by simp only [go_sem, hlt]) | exact wf_set2 hwf (by simp only [go_sem, hlt]) (by simp only [go_sem, hlt]) | (simp only [go_sem]; done)) (by first | exact ⟨_, _root_.id rfl⟩ | exact ⟨[], (List.append_nil _).symm⟩) ?_) <;> simp only [go_sem, hlt]
    have := hk []
    rw [hx, List.append_nil, set_same hl] at this
    exact this
  have h1 : ((i0 : Int) == -1) = false := by simp
  have hw := wrap_nat i0 (by omega)
  have hmin : (xs.take i0).length = i0 := by simp; omega
  have hsp : xs.take i0 ++ xs[i0] :: xs.drop (i0 + 1) = xs := by rw [← List.drop_eq_getElem_cons hi0, List.take_append_drop]
  (try simp only [go_sem, hf, h1, hw]); repeat' (first | (with_reducible first | refine c_split ?_ ?_ | refine w_split ?_ ?_) <;> intro hb <;> try simp only [go_sem, hb, hf, h1, hw] | fail)
  refine while_at (α := Nat × Lot × List Lot) (fun ⟨j, m, mid⟩ => xs.length - j) [0, 1] (fun ⟨j, m, mid⟩ f h => f 5 = (.one (.c (.int .i64 ((((xs.take j).filter fun x => !p x).length : Nat))))) ∧ f 6 = (.one (.c (.int .i64 (j)))) ∧ h = h0.set l (.own g 137 5 cap (((xs.take j).filter (fun x => !p x) ++ m :: (mid ++ xs.drop j)).map lotC)) ∧ j ≤ xs.length ∧ ((xs.take j).filter fun x => !p x).length + 1 + mid.length = j) (i0 + 1, xs[i0], []) (GC.now ?_) ?_
  · simp only [go_sem, nc_0, true_and, hall, hlt, hct, tr_clo, ca_clos]
    rw [hx2]; simp only [hmin, hsp, List.nil_append, set_same hl, true_and]; exact ⟨by omega, by simp⟩
  · rintro ⟨j, m, mid⟩ f h J hA ⟨e5, e6, rfl, hP⟩ hJ
    simp only [go_sem, hall, hlt, hct, tr_clo, ca_clos] at hA
    try dsimp only at hJ
    simp only [go_sem, hA, e5, e6, hall, hlt, hct, tr_clo, ca_clos]
    obtain ⟨hj, hjm⟩ := hP
    generalize hAf : (xs.take j).filter (fun x => !p x) = A at *
    refine c_split (fun hb => ?_) (fun hb => ?_)
    · have hi := lt_len hb
      obtain ⟨ar1, ar2, hAi, ar4, ar5, ar6, ar7⟩ := del_arith hjm hi hn
      have hw := wrap_nat j ar2
      have hil : (j : Int) < (xs.length : Int) := Int.ofNat_lt.2 hi
      have hgj : (A ++ m :: (mid ++ xs.drop j))[j]? = some xs[j] := by
        rw [show A ++ m :: (mid ++ xs.drop j) = (A ++ m :: mid) ++ xs.drop j by simp, List.getElem?_append_right (by simp; omega), List.drop_eq_getElem_cons hi]
        rw [show j - (A ++ m :: mid).length = 0 by simp; omega]; rfl
      have hcap : ∀ o a, ∀ c ∈ caps, (h0.set l o ++ a)[c]? = h0[c]? := fun o a c hc => by
        have h1 : c < h0.length := by simpa using List.all_eq_true.1 hct c hc
        rw [List.getElem?_append_left (by simpa using h1), List.getElem?_set_ne (by rintro rfl; exact hcl hc)]
      have htk : (xs.take (j + 1)).filter (fun x => !p x) = A ++ (if p xs[j] = true then [] else [xs[j]]) := by
        rw [List.take_succ_eq_append_getElem hi, List.filter_append, hAf]
        cases hpj : p xs[j] <;> simp [hpj]
      have hmid : mid ++ xs.drop j = (mid ++ [xs[j]]) ++ xs.drop (j + 1) := by rw [List.drop_eq_getElem_cons hi]; simp
      have hnew : ∀ (o : AO) (a : AO), (h0.set l o ++ [a])[h0.length]? = some a := fun o a => by rw [List.getElem?_append_right (by simp)]; simp
      have hset : ∀ (o : AO) (a b : AO), (h0.set l o ++ [a]).set h0.length b = h0.set l o ++ [b] := fun o a b => by rw [List.set_append_right _ _ (by simp)]; simp
      have hold : ∀ (o : AO) (a : List AO), (h0.set l o ++ a)[l]? = some o := fun o a => h_old a (hall o)
      have hset2 : ∀ (o b : AO) (a : List AO), (h0.set l o ++ a).set l b = h0.set l b ++ a := fun o b a => by rw [List.set_append_left _ _ (by simpa using hlt)]; simp
      have hgA : (A ++ m :: (mid ++ xs.drop j))[A.length]? = some m := by rw [List.getElem?_append_right (Nat.le_refl _), Nat.sub_self]; rfl
      simp only [go_sem, hb, hA, e5, e6, hall, hlt, hct, tr_clo, ca_clos, hgj]
      simp only [go_sem, hA, e5, e6, hall, hlt, hct, tr_clo, ca_clos, hil, hgj, hnew, hset]
      refine hp _ _ _ (hcap _ _) ?_
      (try simp only [go_sem, hA, e5, e6, hall, hlt, hct, tr_clo, ca_clos, hgj, hAi, hgA, set_mid, hnew, hset, hold, hset2]); repeat' (first | (with_reducible first | refine c_split ?_ ?_ | refine w_split ?_ ?_) <;> intro hb <;> try simp only [go_sem, hb, hA, e5, e6, hall, hlt, hct, tr_clo, ca_clos, hgj, hAi, hgA, set_mid, hnew, hset, hold, hset2] | fail)
      · have hpj : p xs[j] = false := by simpa using hb
        have htk2 : (xs.take (j + 1)).filter (fun x => !p x) = A ++ [xs[j]] := by rw [htk, hpj]; rfl
        obtain ⟨m', mid', e⟩ : ∃ m' mid', mid ++ [xs[j]] = m' :: mid' := by cases mid with
          | nil => exact ⟨_, _, rfl⟩
          | cons a r => exact ⟨_, _, rfl⟩
        have e2 : A ++ xs[j] :: (mid ++ xs.drop j) = (A ++ [xs[j]]) ++ m' :: (mid' ++ xs.drop (j + 1)) := by rw [hmid, e]; simp
        have hl2 : mid'.length = mid.length := by have := congrArg List.length e; simp only [List.length_append, List.length_cons, List.length_nil, Nat.zero_add] at this; exact (Nat.succ.inj this).symm
        have hwA := wrap_nat A.length ar1
        have hA1 : (A ++ [xs[j]]).length = A.length + 1 := by simp
        refine gc_trim h0.length (Nat.le_refl _) (by simp) (by rw [take_app _ _ (by simp)]; first | exact hwf | exact wf_set hwf (by simp only [go_sem, htk2, hwA, hA1, e2])) (hJ (j + 1, m', mid') _ _ (by exact ar4) (by simp only [go_sem, hA, e5, e6, hall, hlt, hct, tr_clo, ca_clos, htk2, hwA, hA1, e2]) ⟨?_, ?_, ?_, ?_⟩) <;> try simp only [go_sem, take_app, hA, e5, e6, hall, hlt, hct, tr_clo, ca_clos, hw, htk2, hwA, hA1, e2]
        exact ⟨ar5, by rw [hl2]; exact ar6⟩
      · have hpj : p xs[j] = true := by simpa using hb
        have htk2 : (xs.take (j + 1)).filter (fun x => !p x) = A := by rw [htk, hpj]; simp
        have e2 : A ++ m :: (mid ++ xs.drop j) = A ++ m :: (mid ++ [xs[j]] ++ xs.drop (j + 1)) := by rw [hmid]
        refine gc_trim h0.length (Nat.le_refl _) (by simp) (by rw [take_app _ _ (by simp)]; first | exact hwf | exact wf_set hwf (by simp only [go_sem, htk2, e2])) (hJ (j + 1, m, mid ++ [xs[j]]) _ _ (by exact ar4) (by simp only [go_sem, hA, e5, e6, hall, hlt, hct, tr_clo, ca_clos, htk2, e2]) ⟨?_, ?_, ?_, ?_⟩) <;> try simp only [go_sem, take_app, hA, e5, e6, hall, hlt, hct, tr_clo, ca_clos, hw, htk2, e2]
        exact ⟨ar5, ar7⟩
    · simp only [go_sem, hb, hA, e5, e6, hall, hlt, hct, tr_clo, ca_clos]
      obtain rfl := ge_len hb hj
      rw [List.take_length] at hAf
      subst hAf
      have hz : ((xs.filter fun x => !p x) ++ m :: (mid ++ xs.drop xs.length)).length = xs.length := by rw [List.drop_length]; simp; omega
      have hA0 : (xs.filter fun x => !p x).length < xs.length := by omega
      have hA1 : (xs.filter fun x => !p x).length ≤ xs.length := Nat.le_of_lt hA0
      have hd0 : xs.drop xs.length = [] := List.drop_length
      rw [hd0] at hz ⊢
      rw [List.append_nil] at hz ⊢
      have hle : (List.filter (fun x => !p x) xs ++ m :: mid).length = xs.length := hz
      simp only [go_sem, hall, hA0, hA1, hd0, hz]
      refine cr_sl (by decide) (hall _) (by simp only [List.length_map, hle]; omega) ?_
      rw [cset_end _ _ _ (by simp only [List.length_map, hle, List.length_replicate]; omega)]
      have htk3 : (List.map lotC (xs.filter (fun x => !p x) ++ m :: mid)).take (xs.filter fun x => !p x).length = (xs.filter fun x => !p x).map lotC := by rw [← List.map_take, List.take_left]
      have hrep := lotC_rep (xs.length - (xs.filter fun x => !p x).length) 0 0 0 0 0
      rw [htk3, hrep, ← List.map_append]
      have hl3 : (xs.filter (fun x => !p x) ++ List.replicate (xs.length - (xs.filter fun x => !p x).length) (⟨0, 0, 0, 0, 0⟩ : Lot)).length = xs.length := by simp; omega
      (try simp only [go_sem, hA, e5, e6, hall, hlt, hct, tr_clo, ca_clos, hA1, hl3, Nat.zero_add]); repeat' (first | (with_reducible first | refine c_split ?_ ?_ | refine w_split ?_ ?_) <;> intro hb <;> try simp only [go_sem, hb, hA, e5, e6, hall, hlt, hct, tr_clo, ca_clos, hA1, hl3, Nat.zero_add] | fail)
      refine hQ (h0.set l (.own g 137 5 cap ((xs.filter (fun x => !p x) ++ List.replicate (xs.length - (xs.filter fun x => !p x).length) (⟨0, 0, 0, 0, 0⟩ : Lot)).map lotC))) _ _ ?_; refine GC.now (ret_m (by simp only [go_sem, Tryz.f290, hlt]; exact _root_.id rfl) (by simp only [go_sem]) (by simp) (by first | exact hwf | exact wf_set hwf (by simp only [go_sem, hlt]) | exact wf_set2 hwf (by simp only [go_sem, hlt]) (by simp only [go_sem, hlt]) | (simp only [go_sem]; done)) (by first | exact ⟨_, _root_.id rfl⟩ | exact ⟨[], (List.append_nil _).symm⟩) ?_) <;> simp only [go_sem, hlt]
      exact hk _
def lotIs (a n : Int) (x : Lot) : Bool := x.account == a && x.instr == n
def ownL (xs : List Lot) (a n : Int) : List Lot := xs.filter (lotIs a n)
def sumQ (xs : List Lot) : Int := (xs.map (·.qty)).sum
def sumC (xs : List Lot) : Int := (xs.map (·.cost)).sum
def Fine (xs : List Lot) : Prop := (∀ x ∈ xs, (0 ≤ x.qty ∧ x.qty ≤ 1000000000000000) ∧ 0 ≤ x.cost ∧ x.cost ≤ 1000000000000000) ∧ xs.length ≤ 1000
theorem Fine.own {xs : List Lot} (h : Fine xs) (a n : Int) : Fine (ownL xs a n) := ⟨fun x hx => h.1 x (List.mem_filter.1 hx).1, Nat.le_trans (List.length_filter_le _ _) h.2⟩
theorem sums_le : ∀ (xs : List Lot), (∀ x ∈ xs, (0 ≤ x.qty ∧ x.qty ≤ 1000000000000000) ∧ 0 ≤ x.cost ∧ x.cost ≤ 1000000000000000) → (0 ≤ sumQ xs ∧ sumQ xs ≤ 1000000000000000 * (xs.length : Int)) ∧ 0 ≤ sumC xs ∧ sumC xs ≤ 1000000000000000 * (xs.length : Int)
  | [], _ => by simp [sumQ, sumC]
  | x :: r, h => by
    have ih := sums_le r (fun y hy => h y (List.mem_cons_of_mem _ hy))
    have hx := h x (List.mem_cons_self ..)
    have e1 : sumQ (x :: r) = x.qty + sumQ r := by simp [sumQ]
    have e2 : sumC (x :: r) = x.cost + sumC r := by simp [sumC]
    rw [e1, e2, List.length_cons]
    omega
theorem sumQ_s (xs : List Lot) (i : Nat) (hi : i < xs.length) : sumQ (xs.take (i + 1)) = sumQ (xs.take i) + xs[i].qty ∧ sumC (xs.take (i + 1)) = sumC (xs.take i) + xs[i].cost := by
  constructor
  · rw [List.take_succ_eq_append_getElem hi, sumQ, sumQ, List.map_append, List.sum_append]; simp
  · rw [List.take_succ_eq_append_getElem hi, sumC, sumC, List.map_append, List.sum_append]; simp
theorem sums_w {xs : List Lot} (h : Fine xs) {i : Nat} (hi : i < xs.length) : wrap64 (sumQ (xs.take i) + xs[i].qty) = sumQ (xs.take i) + xs[i].qty ∧ wrap64 (sumC (xs.take i) + xs[i].cost) = sumC (xs.take i) + xs[i].cost := by
  have h1 := sums_le (xs.take i) (fun x hx => h.1 x (List.mem_of_mem_take hx))
  have h2 := h.1 _ (List.getElem_mem hi)
  have h3 := h.2
  rw [List.length_take] at h1
  exact ⟨wrap_id _ (by omega) (by omega), wrap_id _ (by omega) (by omega)⟩
theorem c_isLot (x : Lot) (a n : Int) (K : AV → AH → Prop) (hk : K (.one (.c (.bool (lotIs a n x)))) []) : ACalls Tryz.prog 292 [.agg (lotC x), (.one (.c (.int .i64 (a)))), (.one (.c (.int .i64 (n))))] [] K := by
  refine acall_c Tryz.f292.results.toList mixed Tryz.func292 rfl rfl (by kernel_rfl) ?_
  intro Q hQ hQO
  simp only [go_sem]
  (try simp only [go_sem]); repeat' (first | (with_reducible first | refine c_split ?_ ?_ | refine w_split ?_ ?_) <;> intro hb <;> try simp only [go_sem, hb] | with_reducible refine hQ _ _ ?_ <;> simp only [Tryz.f292, go_sem])
  · exact kB hk (by rw [lotIs, hb, Bool.true_and])
  · exact kB hk (by rw [lotIs, hb, Bool.false_and])
theorem c_lotsOf1 (x : Lot) (a n : Int) (h0 : AH) (c1 c2 : Nat) (hc1 : h0[c1]? = some (.own 0 3 1 (some 1) [[.c (.int .i64 (a))]])) (hc2 : h0[c2]? = some (.own 0 3 1 (some 1) [[.c (.int .i64 (n))]])) (K : AV → AH → Prop) (hk : K (.one (.c (.bool (!lotIs a n x)))) h0) : ACalls Tryz.prog 291 [.agg (lotC x), .one (.pt c1 0 0 0), .one (.pt c2 0 0 0)] h0 K := by
  refine acall_m Tryz.f291.results.toList mixed Tryz.func291 rfl rfl (by kernel_rfl) ?_
  intro hwf Q hQ
  simp only [go_sem, fun a => h_old a hc1, fun a => h_old a hc2]
  (try simp only [go_sem, fun a => h_old a hc1, fun a => h_old a hc2]); repeat' (first | (with_reducible first | refine c_split ?_ ?_ | refine w_split ?_ ?_) <;> intro hb <;> try simp only [go_sem, hb, fun a => h_old a hc1, fun a => h_old a hc2] | refine call_c (c_isLot x a n _ ?_) <;> try simp only [go_sem, fun a => h_old a hc1, fun a => h_old a hc2] | fail)
  refine hQ (h0) _ _ ?_; refine GC.now (ret_m (by simp only [go_sem, Tryz.f291]; exact _root_.id rfl) (by simp only [go_sem]) (by simp) (by first | exact hwf | exact wf_set hwf (by simp only [go_sem]) | exact wf_set2 hwf (by simp only [go_sem]) (by simp only [go_sem]) | (simp only [go_sem]; done)) (by first | exact ⟨_, _root_.id rfl⟩ | exact ⟨[], (List.append_nil _).symm⟩) ?_) <;> simp only [go_sem]
  exact hk
theorem c_lotsOf (xs : List Lot) (a n : Int) (hn : xs.length ≤ 1000000000) (K : AV → AH → Prop) (hk : K (.one (.im ((ownL xs a n).map lotC))) []) : ACalls Tryz.prog 253 [(.one (.im (xs.map lotC))), (.one (.c (.int .i64 (a)))), (.one (.c (.int .i64 (n))))] [] K := by
  refine acall_im ?_
  refine acall_c Tryz.f253.results.toList mixed Tryz.func253 rfl rfl (by kernel_rfl) ?_
  intro Q hQ hQO
  simp only [go_sem]
  (try simp only [go_sem]); repeat' (first | (with_reducible first | refine c_split ?_ ?_ | refine w_split ?_ ?_) <;> intro hb <;> try simp only [go_sem, hb] | refine call_c (c_CloneLot xs hn _ (fun cap => ?_)) <;> try simp only [go_sem] | fail)
  refine call_h (c_DeleteFuncLot xs 2 0 cap _ _ (fun x => !lotIs a n x) _ rfl hn ?_ (by decide) rfl _ (fun rest => ?_))
  · intro h1 x K' hcap hk'
    refine .inr (.inl ⟨rfl, c_lotsOf1 x a n h1 0 1 ?_ ?_ _ hk'⟩)
    · exact (hcap 0 (by simp)).trans rfl
    · exact (hcap 1 (by simp)).trans rfl
  · have hff : (xs.filter fun x => !!lotIs a n x) = ownL xs a n := by unfold ownL; congr 1; funext x; simp
    simp only [hff]
    simp only [go_sem]
    (try simp only [go_sem]); repeat' (first | (with_reducible first | refine c_split ?_ ?_ | refine w_split ?_ ?_) <;> intro hb <;> try simp only [go_sem, hb] | fail)
    have htk : (List.map lotC (ownL xs a n ++ rest)).take (ownL xs a n).length = (ownL xs a n).map lotC := by rw [← List.map_take, List.take_left]
    refine hQO [2] _ _ (GC.step (Ghost.cut (l := 2) rfl (ownL xs a n).length) (GC.now ?_)) <;> simp only [Tryz.f253, go_sem, List.nodup_cons, List.nodup_nil, List.mem_cons, List.not_mem_nil, or_false, not_false_eq_true, List.idxOf?_cons, List.idxOf?_nil, Option.map_none, htk]
    exact hk
theorem c_sumLots (xs : List Lot) (h : Fine xs) (K : AV → AH → Prop) (hk : K (.tup [(.one (.c (.int .i64 (sumQ xs)))), (.one (.c (.int .i64 (sumC xs))))]) []) : ACalls Tryz.prog 252 [(.one (.im (xs.map lotC)))] [] K := by
  have hn : xs.length ≤ 1000000000 := by have := h.2; omega
  refine acall_c Tryz.f252.results.toList mixed Tryz.func252 rfl rfl (by kernel_rfl) ?_
  intro Q hQ hQO
  simp only [go_sem]
  refine for_at (xs.length) [8, 9] (fun i f h => f 4 = (.one (.c (.int .i64 (sumQ (xs.take i))))) ∧ f 5 = (.one (.c (.int .i64 (sumC (xs.take i))))) ∧ f 10 = (.one (.c (.int .i64 (i)))) ∧ h = []) (GC.now ?_) ?_
  · simp only [go_sem, nc_0, true_and]
    exact ⟨rfl, rfl⟩
  · rintro i f h J hi hA ⟨e4, e5, e10, rfl⟩ hJ
    simp only [go_sem] at hA
    simp only [go_sem, hA, e4, e5, e10]
    refine c_split (fun hb => ?_) (fun hb => ?_)
    rotate_left
    · simp only [go_sem, hb, hA, e4, e5, e10]
      obtain rfl := ge_len hb hi
      (try simp only [go_sem, hA, e4, e5, e10, List.take_length]); repeat' (first | (with_reducible first | refine c_split ?_ ?_ | refine w_split ?_ ?_) <;> intro hb <;> try simp only [go_sem, hb, hA, e4, e5, e10, List.take_length] | with_reducible refine hQ _ _ ?_ <;> simp only [Tryz.f252, go_sem, hA, e4, e5, e10, List.take_length])
      exact hk
    have hi := lt_len hb
    have hw := wrap_nat i (by omega)
    have hil : (i : Int) < ((xs.length : Nat) : Int) := Int.ofNat_lt.2 hi
    have hg0 : (xs)[i]? = some ((xs)[i]) := List.getElem?_eq_getElem (by omega)
    simp only [go_sem, hb, hA, e4, e5, e10, hg0]
    try simp only [go_sem, hA, e4, e5, e10, hil, hg0]
    obtain ⟨s1, s2⟩ := sumQ_s xs i hi
    obtain ⟨w1, w2⟩ := sums_w h hi
    (try simp only [go_sem, hA, e4, e5, e10, hil, hg0, w1, w2]); repeat' (first | (with_reducible first | refine c_split ?_ ?_ | refine w_split ?_ ?_) <;> intro hb <;> try simp only [go_sem, hb, hA, e4, e5, e10, hil, hg0, w1, w2] | fail)
    refine gc_trim 0 (by decide) (by simp only [go_sem]) (by simp only [go_sem]) (hJ _ _ hi (by simp only [go_sem, hA, e4, e5, e10]) ⟨?_, ?_, ?_, ?_⟩) <;> try simp only [go_sem, hA, e4, e5, e10, hw, s1, s2]
def badLot (xs : List Lot) (x : Lot) : Bool := !amtOk (sumQ (ownL xs x.account x.instr)) || !amtOk (sumC (ownL xs x.account x.instr))
theorem c_LotsOk1 (x : Lot) (xs : List Lot) (hf : Fine xs) (h0 : AH) (c : Nat) (hc : h0[c]? = some (.own 0 28 1 (some 1) [[.im (xs.map lotC)]])) (K : AV → AH → Prop) (hk : K (.one (.c (.bool (badLot xs x)))) h0) : ACalls Tryz.prog 251 [.agg (lotC x), .one (.pt c 0 0 0)] h0 K := by
  have hn : xs.length ≤ 1000000000 := by have := hf.2; omega
  refine acall_m Tryz.f251.results.toList mixed Tryz.func251 rfl rfl (by kernel_rfl) ?_
  intro hwf Q hQ
  simp only [go_sem, fun a => h_old a hc]
  (try simp only [go_sem, fun a => h_old a hc]); repeat' (first | (with_reducible first | refine c_split ?_ ?_ | refine w_split ?_ ?_) <;> intro hb <;> try simp only [go_sem, hb, fun a => h_old a hc] | (first | refine call_c (c_lotsOf xs x.account x.instr hn _ ?_) | refine call_c (c_sumLots (ownL xs x.account x.instr) (hf.own _ _) _ ?_) | refine call_c (c_impl_AmountOk _ _ ?_) | fail) <;> try simp only [go_sem, fun a => h_old a hc] | fail)
  · refine hQ (h0) _ _ ?_; refine GC.now (ret_m (by simp only [go_sem, Tryz.f251]; exact _root_.id rfl) (by simp only [go_sem]) (by simp) (by first | exact hwf | exact wf_set hwf (by simp only [go_sem]) | exact wf_set2 hwf (by simp only [go_sem]) (by simp only [go_sem]) | (simp only [go_sem]; done)) (by first | exact ⟨_, _root_.id rfl⟩ | exact ⟨[], (List.append_nil _).symm⟩) ?_) <;> simp only [go_sem]
    exact kB hk (by rw [badLot, hb]; rfl)
  · refine hQ (h0) _ _ ?_; refine GC.now (ret_m (by simp only [go_sem, Tryz.f251]; exact _root_.id rfl) (by simp only [go_sem]) (by simp) (by first | exact hwf | exact wf_set hwf (by simp only [go_sem]) | exact wf_set2 hwf (by simp only [go_sem]) (by simp only [go_sem]) | (simp only [go_sem]; done)) (by first | exact ⟨_, _root_.id rfl⟩ | exact ⟨[], (List.append_nil _).symm⟩) ?_) <;> simp only [go_sem]
    exact kB hk (by rw [badLot, hb]; rfl)
theorem c_ContainsLot (xs : List Lot) (g : Nat) (c : Nat) (p : Lot → Bool) (h0 : AH) (K : AV → AH → Prop) (hn : xs.length ≤ 1000000000)
    (hp : ∀ i (hi : i < xs.length) (K' : AV → AH → Prop), K' (.one (.c (.bool (p xs[i])))) h0 → callA Tryz.prog g ([.agg (lotC xs[i])] ++ [c].map fun l => .one (.pt l 0 0 0)) h0 K')
    (hk : K (.one (.c (.bool (decide (0 ≤ findG p xs))))) h0) : ACalls Tryz.prog 250 [(.one (.im (xs.map lotC))), .one (.clo g [c])] h0 K := by
  refine acall_m Tryz.f250.results.toList mixed Tryz.func250 rfl rfl (by kernel_rfl) ?_
  intro hwf Q hQ
  simp only [go_sem, ca_clos]
  refine .inr (.inl ⟨rfl, c_IndexFuncLot xs g [c] p _ _ hn hp ?_⟩)
  simp only [go_sem]
  (try simp only [go_sem]); repeat' (first | (with_reducible first | refine c_split ?_ ?_ | refine w_split ?_ ?_) <;> intro hb <;> try simp only [go_sem, hb] | fail)
  refine hQ (h0) _ _ ?_; refine GC.now (ret_m (by simp only [go_sem, Tryz.f250]; exact _root_.id rfl) (by simp only [go_sem]) (by simp) (by first | exact hwf | exact wf_set hwf (by simp only [go_sem]) | exact wf_set2 hwf (by simp only [go_sem]) (by simp only [go_sem]) | (simp only [go_sem]; done)) (by first | exact ⟨_, _root_.id rfl⟩ | exact ⟨[], (List.append_nil _).symm⟩) ?_) <;> simp only [go_sem]
  exact hk
def lotP (x : Lot) : Bool := noOk x.account && noOk x.instr && decide (1 ≤ x.no ∧ x.no ≤ 1000000000) && decide (1 ≤ x.qty ∧ x.qty ≤ 1000000000000000) && decide (0 ≤ x.cost ∧ x.cost ≤ 1000000000000000)
def lotLt (y x : Lot) : Bool := pairLt y.account y.instr x.account x.instr || (decide (y.account = x.account) && decide (y.instr = x.instr) && decide (y.no < x.no))
def lotCmp (y x : Lot) : Int := if byBoth y.account y.instr x.account x.instr = 0 then (if y.no < x.no then -1 else if x.no < y.no then 1 else 0) else byBoth y.account y.instr x.account x.instr
theorem lotLt_iff {y x : Lot} : lotLt y x = true ↔ (y.account < x.account ∨ y.account = x.account ∧ y.instr < x.instr) ∨ (y.account = x.account ∧ y.instr = x.instr) ∧ y.no < x.no := by
  simp [lotLt, pairLt]
theorem lotCmp_lt {y x : Lot} : lotLt y x = decide (lotCmp y x < 0) := by
  have h1 := byBoth_lt (a := y.account) (b := y.instr) (c := x.account) (d := x.instr)
  by_cases hl : lotLt y x = true
  · rw [hl]
    refine (decide_eq_true ?_).symm
    have := lotLt_iff.1 hl
    unfold lotCmp
    split
    · rename_i h0
      have := h1.2.1 h0
      split
      · decide
      · omega
    · rename_i h0
      exact h1.1.2 (pairLt_iff.2 (by have := fun q => h0 (h1.2.2 q); omega))
  · rw [show lotLt y x = false by simpa using hl]
    refine (decide_eq_false fun q => hl (lotLt_iff.2 ?_)).symm
    unfold lotCmp at q
    split at q
    · rename_i h0
      have := h1.2.1 h0
      split at q
      · omega
      · split at q <;> omega
    · have := pairLt_iff.1 (h1.1.1 q); omega
theorem c_lotForm (x : Lot) (K : AV → AH → Prop) (hk : K (.one (.c (.bool (lotP x)))) []) : ACalls Tryz.prog 248 [.agg (lotC x)] [] K := by
  refine acall_c Tryz.f248.results.toList mixed Tryz.func248 rfl rfl (by kernel_rfl) ?_
  intro Q hQ hQO
  simp only [go_sem]
  (try simp only [go_sem]); repeat' (first | (with_reducible first | refine c_split ?_ ?_ | refine w_split ?_ ?_) <;> intro hb <;> try simp only [go_sem, hb] | (first | refine call_c (c_isNo _ _ ?_) | refine call_c (c_in _ _ _ _ ?_) | fail) <;> try simp only [go_sem] | with_reducible refine hQ _ _ ?_ <;> simp only [Tryz.f248, go_sem])
  all_goals (refine kB hk ?_; simp only [lotP]; simp_all <;> (intros; omega))
theorem c_l5Right (x : Lot) (K : AV → AH → Prop) (hk : K (.one (.c (.bool (lotP x)))) []) : ACalls Tryz.prog 238 [.agg (lotC x)] [] K := by
  refine acall_c Tryz.f238.results.toList mixed Tryz.func238 rfl rfl (by kernel_rfl) ?_
  intro Q hQ hQO
  simp only [go_sem]
  (try simp only [go_sem]); repeat' (first | (with_reducible first | refine c_split ?_ ?_ | refine w_split ?_ ?_) <;> intro hb <;> try simp only [go_sem, hb] | (first | refine call_c (c_l3No _ _ ?_) | refine call_c (c_l1In _ _ _ _ ?_) | refine call_c (c_l1Some _ _ _ ?_) | fail) <;> try simp only [go_sem] | with_reducible refine hQ _ _ ?_ <;> simp only [Tryz.f238, go_sem])
  all_goals (refine kB hk ?_; simp only [lotP]; simp_all <;> (intros; omega))
theorem c_lotBefore (y x : Lot) (K : AV → AH → Prop) (hk : K (.one (.c (.int .i64 (lotCmp y x)))) []) : ACalls Tryz.prog 249 [.agg (lotC y), .agg (lotC x)] [] K := by
  refine acall_c Tryz.f249.results.toList mixed Tryz.func249 rfl rfl (by kernel_rfl) ?_
  intro Q hQ hQO
  simp only [go_sem]
  (try simp only [go_sem]); repeat' (first | (with_reducible first | refine c_split ?_ ?_ | refine w_split ?_ ?_) <;> intro hb <;> try simp only [go_sem, hb] | refine call_c (c_byBoth _ _ _ _ _ ?_) <;> try simp only [go_sem] | with_reducible refine hQ _ _ ?_ <;> simp only [Tryz.f249, go_sem])
  all_goals refine (congrArg (fun q => K (.one (.c (.int .i64 q))) []) ?_).mp hk
  all_goals (unfold lotCmp; simp_all; try omega)
theorem c_l5Before (y x : Lot) (K : AV → AH → Prop) (hk : K (.one (.c (.bool (lotLt y x)))) []) : ACalls Tryz.prog 239 [.agg (lotC y), .agg (lotC x)] [] K := by
  refine acall_c Tryz.f239.results.toList mixed Tryz.func239 rfl rfl (by kernel_rfl) ?_
  intro Q hQ hQO
  simp only [go_sem]
  (try simp only [go_sem]); repeat' (first | (with_reducible first | refine c_split ?_ ?_ | refine w_split ?_ ?_) <;> intro hb <;> try simp only [go_sem, hb] | refine call_c (c_l4Before _ _ _ _ _ ?_) <;> try simp only [go_sem] | with_reducible refine hQ _ _ ?_ <;> simp only [Tryz.f239, go_sem])
  all_goals (refine kB hk ?_; simp only [lotLt]; simp_all)
end Go.Proofs.YtlefjpbhbiajfaaGreat
end
section
namespace Go.Proofs.YtlefjpbhbiajfaaGreat
open Go.BL Go.RowKit
set_option linter.unusedVariables false
set_option linter.unusedSimpArgs false
set_option maxRecDepth 100000
theorem d192_0_LBooks5 : DrawL Tryz.prog 0 12 (.on [(0, false, true), (1, false, true), (2, false, true), (3, false, true), (4, false, true), (5, false, true), (6, false, true), (7, true, true), (8, true, false), (9, true, false), (10, true, true), (11, true, false), (12, false, false), (13, false, false), (14, false, false), (15, false, false), (16, false, false)] .nil) := draw_L
theorem d183_0_LBooks5 : DrawL Tryz.prog 0 20 (.on [(0, false, true), (1, false, true), (2, false, true), (3, false, true), (4, false, true), (5, false, true), (6, false, true), (7, true, true), (8, true, true), (9, true, true), (10, true, true), (11, true, true), (12, false, false), (13, false, true), (14, false, true), (15, false, true), (16, false, true)] .nil) := draw_L
theorem d183_1_LBooks5 : DrawL Tryz.prog 0 37 (.on [(0, false, true), (1, false, true), (2, false, true), (3, true, true), (4, true, true), (5, true, false), (6, false, false), (7, false, false), (8, false, false), (9, false, false), (10, false, false), (11, false, true), (12, false, true), (13, false, true), (14, true, true), (15, true, true), (16, true, false), (17, false, false), (18, false, false), (19, false, false), (20, false, false), (21, false, false), (22, false, false), (23, false, false)] .nil) := draw_L
attribute [local go_sem] accountC balC lotC tradeC
theorem findG_hit {α : Type} {p : α → Bool} {xs : List α} {x : α} (hx : x ∈ xs) (hp : p x = true) : 0 ≤ findG p xs := by
  unfold findG
  cases h : xs.findIdx? p with
  | none =>
    have := (List.findIdx?_eq_none_iff.1 h) x hx
    rw [hp] at this; cases this
  | some i => simp
def lotsOk (xs : List Lot) : Bool := okL lotP lotLt 120 xs && !decide (0 ≤ findG (badLot xs) xs)
theorem lotP_fine {x : Lot} (h : lotP x = true) : (0 ≤ x.qty ∧ x.qty ≤ 1000000000000000) ∧ 0 ≤ x.cost ∧ x.cost ≤ 1000000000000000 := by
  simp only [lotP, Bool.and_eq_true] at h
  have h1 := of_decide_eq_true h.1.2
  have h2 := of_decide_eq_true h.2
  exact ⟨⟨by omega, h1.2⟩, h2⟩
theorem rows_fine {xs : List Lot} {i : Nat} (h : allTo (rowG lotP lotLt xs) i = true) (hi : i ≤ xs.length) : ∀ x ∈ xs.take i, lotP x = true := by
  intro x hx
  obtain ⟨j, hj, rfl⟩ := List.mem_iff_getElem.1 hx
  rw [List.length_take] at hj
  have := allTo_at h j (by omega)
  rw [List.getElem_take]
  rcases j with _ | j
  · rwa [rowG_0 (by omega)] at this
  · rw [rowG_s (by omega), Bool.and_eq_true] at this; exact this.1
theorem okL_fine {xs : List Lot} (h : okL lotP lotLt 120 xs = true) : Fine xs := ⟨fun x hx => lotP_fine (okL_p h hx), by have := okL_len h; omega⟩
theorem lotLt_c {y x : Lot} (h : lotLt y x = true) : decide (0 ≤ lotCmp y x) = false := by
  rw [lotCmp_lt] at h
  have := of_decide_eq_true h
  exact decide_eq_false (by omega)
theorem c_impl_LotsOk (xs : List Lot) (hn : xs.length ≤ 1000000000) (K : AV → AH → Prop) (hk : K (.one (.c (.bool (lotsOk xs)))) []) : ACalls Tryz.prog 192 [(.one (.im (xs.map lotC)))] [] K := by
  refine acall_c Tryz.f192.results.toList mixed Tryz.func192 rfl rfl (by kernel_rfl) ?_
  intro Q hQ hQO
  simp only [go_sem]
  refine for_at (xs.length) [1, 5, 6] (fun i f h => f 7 = (.one (.c (.int .i64 (i)))) ∧ h = [.own 0 28 1 (some 1) [[.im (xs.map lotC)]]] ∧ allTo (rowG lotP lotLt xs) i = true) (GC.now ?_) ?_
  · simp only [go_sem, nc_0, true_and]
    rfl
  · rintro i f h J hi hA ⟨e7, rfl, hP⟩ hJ
    simp only [go_sem] at hA
    simp only [go_sem, hA, e7]
    refine c_split (fun hb => ?_) (fun hb => ?_)
    rotate_left
    · simp only [go_sem, hb, hA, e7]
      obtain rfl := ge_len hb hi
      (try simp only [go_sem, hA, e7]); repeat' (first | (with_reducible first | refine c_split ?_ ?_ | refine w_split ?_ ?_ | refine tw_split ?_ ?_) <;> intro hb <;> try simp only [go_sem, hb, hA, e7] | with_reducible refine d192_0_LBooks5 (by with_unfolding_all rfl) (by kernel_rfl) ?_ <;> try simp only [go_sem, hA, e7] | fail)
      · rw [lotsOk, okL_long (of_decide_eq_true hb), Bool.false_and] at hk
        (try simp only [go_sem]); repeat' (first | (with_reducible first | refine c_split ?_ ?_ | refine w_split ?_ ?_ | refine tw_split ?_ ?_) <;> intro hb <;> try simp only [go_sem, hb] | with_reducible refine d192_0_LBooks5 (by with_unfolding_all rfl) (by kernel_rfl) ?_ <;> try simp only [go_sem] | with_reducible refine hQ _ _ ?_ <;> simp only [Tryz.f192, go_sem])
        exact hk
      · have hlen := of_decide_eq_false hb
        have hokL : okL lotP lotLt 120 xs = true := by rw [okL, hP, decide_eq_true (by omega)]; rfl
        rw [lotsOk, hokL, Bool.true_and] at hk
        refine call_h (c_ContainsLot xs _ 0 (badLot xs) _ _ hn (fun i hi K' hk' => .inr (.inl ⟨rfl, c_LotsOk1 xs[i] xs (okL_fine hokL) _ 0 rfl _ hk'⟩)) ?_)
        simp only [go_sem]
        (try simp only [go_sem]); repeat' (first | (with_reducible first | refine c_split ?_ ?_ | refine w_split ?_ ?_ | refine tw_split ?_ ?_) <;> intro hb <;> try simp only [go_sem, hb] | with_reducible refine d192_0_LBooks5 (by with_unfolding_all rfl) (by kernel_rfl) ?_ <;> try simp only [go_sem] | with_reducible refine hQ _ _ ?_ <;> simp only [Tryz.f192, go_sem])
        exact hk
    have hi := lt_len hb
    have hw := wrap_nat i (by omega)
    have hil : (i : Int) < ((xs.length : Nat) : Int) := Int.ofNat_lt.2 hi
    have hg0 : (xs)[i]? = some ((xs)[i]) := List.getElem?_eq_getElem (by omega)
    simp only [go_sem, hb, hA, e7, hg0]
    try simp only [go_sem, hA, e7, hil, hg0]
    cases hr : rowG lotP lotLt xs i with
    | true =>
      have hall := allTo_s hP hr
      rcases i with _ | j
      · have g0 : decide ((0 : Int) < ((0 : Nat) : Int)) = false := by decide
        rw [rowG_0 hi] at hr
        (try simp only [go_sem, hA, e7, hil, hg0, g0, hr]); repeat' (first | (with_reducible first | refine c_split ?_ ?_ | refine w_split ?_ ?_ | refine tw_split ?_ ?_) <;> intro hb <;> try simp only [go_sem, hb, hA, e7, hil, hg0, g0, hr] | (first | with_reducible refine d192_0_LBooks5 (by with_unfolding_all rfl) (by kernel_rfl) ?_ | refine call_c (c_lotForm _ _ ?_) | refine call_c (c_lotBefore _ _ _ ?_) | fail) <;> try simp only [go_sem, hA, e7, hil, hg0, g0, hr] | fail)
        refine gc_trim 1 (by decide) (by simp only [go_sem]) (by simp only [go_sem]) (hJ _ _ hi (by simp only [go_sem, hA, e7]) ⟨?_, ?_, ?_⟩) <;> try simp only [go_sem, hA, e7, hw]
        exact hall
      · have hj : j < xs.length := by omega
        have hgj : xs[j]? = some xs[j] := List.getElem?_eq_getElem hj
        have g1 : decide ((0 : Int) < ((j + 1 : Nat) : Int)) = true := decide_eq_true (by omega)
        have g2 : wrap64 (((j + 1 : Nat) : Int) - 1) = (j : Int) := by unfold wrap64; omega
        rw [rowG_s hi, Bool.and_eq_true] at hr
        obtain ⟨hr, hlt⟩ := hr
        have hlt2 := lotLt_c hlt
        (try simp only [go_sem, hA, e7, hil, hg0, g1, g2, hgj, hlt2, hr]); repeat' (first | (with_reducible first | refine c_split ?_ ?_ | refine w_split ?_ ?_ | refine tw_split ?_ ?_) <;> intro hb <;> try simp only [go_sem, hb, hA, e7, hil, hg0, g1, g2, hgj, hlt2, hr] | (first | with_reducible refine d192_0_LBooks5 (by with_unfolding_all rfl) (by kernel_rfl) ?_ | refine call_c (c_lotForm _ _ ?_) | refine call_c (c_lotBefore _ _ _ ?_) | fail) <;> try simp only [go_sem, hA, e7, hil, hg0, g1, g2, hgj, hlt2, hr] | fail)
        refine gc_trim 1 (by decide) (by simp only [go_sem]) (by simp only [go_sem]) (hJ _ _ hi (by simp only [go_sem, hA, e7]) ⟨?_, ?_, ?_⟩) <;> try simp only [go_sem, hA, e7, hw]
        exact hall
    | false =>
      rw [lotsOk, okL_no hr hi, Bool.false_and] at hk
      rcases i with _ | j
      · have g0 : decide ((0 : Int) < ((0 : Nat) : Int)) = false := by decide
        rw [rowG_0 hi] at hr
        (try simp only [go_sem, hA, e7, hil, hg0, g0, hr]); repeat' (first | (with_reducible first | refine c_split ?_ ?_ | refine w_split ?_ ?_ | refine tw_split ?_ ?_) <;> intro hb <;> try simp only [go_sem, hb, hA, e7, hil, hg0, g0, hr] | (first | with_reducible refine d192_0_LBooks5 (by with_unfolding_all rfl) (by kernel_rfl) ?_ | refine call_c (c_lotForm _ _ ?_) | refine call_c (c_lotBefore _ _ _ ?_) | fail) <;> try simp only [go_sem, hA, e7, hil, hg0, g0, hr] | with_reducible refine hQ _ _ ?_ <;> simp only [Tryz.f192, go_sem, hA, e7, hil, hg0, g0, hr])
        exact hk
      · have hj : j < xs.length := by omega
        have hgj : xs[j]? = some xs[j] := List.getElem?_eq_getElem hj
        have g1 : decide ((0 : Int) < ((j + 1 : Nat) : Int)) = true := decide_eq_true (by omega)
        have g2 : wrap64 (((j + 1 : Nat) : Int) - 1) = (j : Int) := by unfold wrap64; omega
        rw [rowG_s hi] at hr
        cases hp : lotP xs[j + 1] with
        | false =>
          (try simp only [go_sem, hA, e7, hil, hg0, g1, g2, hgj, hp]); repeat' (first | (with_reducible first | refine c_split ?_ ?_ | refine w_split ?_ ?_ | refine tw_split ?_ ?_) <;> intro hb <;> try simp only [go_sem, hb, hA, e7, hil, hg0, g1, g2, hgj, hp] | (first | with_reducible refine d192_0_LBooks5 (by with_unfolding_all rfl) (by kernel_rfl) ?_ | refine call_c (c_lotForm _ _ ?_) | refine call_c (c_lotBefore _ _ _ ?_) | fail) <;> try simp only [go_sem, hA, e7, hil, hg0, g1, g2, hgj, hp] | with_reducible refine hQ _ _ ?_ <;> simp only [Tryz.f192, go_sem, hA, e7, hil, hg0, g1, g2, hgj, hp])
          exact hk
        | true =>
          rw [hp, Bool.true_and, lotCmp_lt] at hr
          have hge : decide (0 ≤ lotCmp xs[j] xs[j + 1]) = true := decide_eq_true (by have := of_decide_eq_false hr; omega)
          (try simp only [go_sem, hA, e7, hil, hg0, g1, g2, hgj, hp, hge]); repeat' (first | (with_reducible first | refine c_split ?_ ?_ | refine w_split ?_ ?_ | refine tw_split ?_ ?_) <;> intro hb <;> try simp only [go_sem, hb, hA, e7, hil, hg0, g1, g2, hgj, hp, hge] | (first | with_reducible refine d192_0_LBooks5 (by with_unfolding_all rfl) (by kernel_rfl) ?_ | refine call_c (c_lotForm _ _ ?_) | refine call_c (c_lotBefore _ _ _ ?_) | fail) <;> try simp only [go_sem, hA, e7, hil, hg0, g1, g2, hgj, hp, hge] | with_reducible refine hQ _ _ ?_ <;> simp only [Tryz.f192, go_sem, hA, e7, hil, hg0, g1, g2, hgj, hp, hge])
          exact hk
def runL (xs : List Lot) : Nat → List Lot
  | 0 => []
  | j + 1 => match xs[j]? with | some y => ownL (xs.take (j + 1)) y.account y.instr | none => []
theorem run_at (xs : List Lot) (i : Nat) (hi : i < xs.length) : runL xs (i + 1) = ownL (xs.take (i + 1)) xs[i].account xs[i].instr := by simp [runL, hi]
theorem own_s (xs : List Lot) (i : Nat) (hi : i < xs.length) (a n : Int) : ownL (xs.take (i + 1)) a n = ownL (xs.take i) a n ++ (if lotIs a n xs[i] = true then [xs[i]] else []) := by
  rw [ownL, ownL, List.take_succ_eq_append_getElem hi, List.filter_append]
  cases h : lotIs a n xs[i] <;> simp [h]
theorem lotIs_self (x : Lot) : lotIs x.account x.instr x = true := by simp [lotIs]
theorem lotIs_iff {a n : Int} {x : Lot} : lotIs a n x = true ↔ x.account = a ∧ x.instr = n := by simp [lotIs]
theorem run_0 (xs : List Lot) (hi : 0 < xs.length) : runL xs 1 = [xs[0]] := by
  rw [run_at xs 0 hi, own_s xs 0 hi, if_pos (lotIs_self _)]; rfl
theorem run_same {xs : List Lot} {j : Nat} (hi : j + 1 < xs.length) (h1 : xs[j + 1].account = xs[j].account) (h2 : xs[j + 1].instr = xs[j].instr) : runL xs (j + 2) = runL xs (j + 1) ++ [xs[j + 1]] := by
  rw [run_at xs (j + 1) hi, run_at xs j (by omega), own_s xs (j + 1) hi, if_pos (lotIs_self _), h1, h2]
theorem lotLt_tr (x y z : Lot) (h1 : lotLt x y = true) (h2 : lotLt y z = true) : lotLt x z = true := by
  rw [lotLt_iff] at *; omega
theorem rows_lt {xs : List Lot} {n : Nat} (h : allTo (rowG lotP lotLt xs) n = true) : ∀ (d i : Nat) (_ : i + d + 1 < n) (hj : i + d + 1 < xs.length), lotLt (xs[i]'(by omega)) xs[i + d + 1] = true := by
  have adj : ∀ j, j + 1 < n → ∀ (hj : j + 1 < xs.length), lotLt xs[j] xs[j + 1] = true := fun j hn hj => by
    have := allTo_at h (j + 1) hn
    rw [rowG_s hj, Bool.and_eq_true] at this; exact this.2
  intro d
  induction d with
  | zero => exact fun i hn hj => adj i hn hj
  | succ d ih => exact fun i hn hj => lotLt_tr _ _ _ (ih i (by omega) (by omega)) (adj (i + d + 1) hn hj)
theorem run_diff {xs : List Lot} {j : Nat} (hi : j + 1 < xs.length) (h : allTo (rowG lotP lotLt xs) (j + 2) = true) (hne : ¬ (xs[j + 1].account = xs[j].account ∧ xs[j + 1].instr = xs[j].instr)) : runL xs (j + 2) = [xs[j + 1]] := by
  rw [run_at xs (j + 1) hi, own_s xs (j + 1) hi, if_pos (lotIs_self _)]
  have : ownL (xs.take (j + 1)) xs[j + 1].account xs[j + 1].instr = [] := by
    rw [ownL, List.filter_eq_nil_iff]
    intro x hx
    obtain ⟨k, hk, rfl⟩ := List.mem_iff_getElem.1 hx
    rw [List.length_take] at hk
    rw [List.getElem_take, lotIs_iff]
    have hlast : lotLt xs[j] xs[j + 1] = true := rows_lt h 0 j (by omega) hi
    rw [lotLt_iff] at hlast
    by_cases e : k = j
    · subst e; intro q; exact hne ⟨q.1.symm, q.2.symm⟩
    · obtain ⟨d, hd⟩ : ∃ d, j = k + d + 1 := ⟨j - k - 1, by omega⟩
      have h2 := rows_lt h d k (by omega) (by omega)
      rw [lotLt_iff] at h2
      simp only [← hd] at h2
      omega
  rw [this]; rfl
theorem sumQ_app (xs : List Lot) (x : Lot) : sumQ (xs ++ [x]) = sumQ xs + x.qty ∧ sumC (xs ++ [x]) = sumC xs + x.cost := by
  constructor
  · rw [sumQ, sumQ, List.map_append, List.sum_append]; simp
  · rw [sumC, sumC, List.map_append, List.sum_append]; simp
theorem run_mem {xs : List Lot} {i : Nat} {x : Lot} (hx : x ∈ runL xs i) : x ∈ xs.take i := by
  cases i with
  | zero => simp [runL] at hx
  | succ j =>
    simp only [runL] at hx
    split at hx
    · exact (List.mem_filter.1 hx).1
    · simp at hx
theorem run_len (xs : List Lot) (i : Nat) : (runL xs i).length ≤ i := by
  cases i with
  | zero => exact Nat.le_refl _
  | succ j =>
    simp only [runL]
    split
    · exact Nat.le_trans (List.length_filter_le _ _) (by rw [List.length_take]; omega)
    · exact Nat.zero_le _
theorem run_w {xs : List Lot} {i : Nat} (h : allTo (rowG lotP lotLt xs) i = true) (hi : i < xs.length) (hl : xs.length ≤ 120) (hx : lotP xs[i] = true) : wrap64 (sumQ (runL xs i) + xs[i].qty) = sumQ (runL xs i) + xs[i].qty ∧ wrap64 (sumC (runL xs i) + xs[i].cost) = sumC (runL xs i) + xs[i].cost ∧ wrap64 (0 + xs[i].qty) = xs[i].qty ∧ wrap64 (0 + xs[i].cost) = xs[i].cost := by
  have h1 := sums_le (runL xs i) (fun x hx => lotP_fine (rows_fine h (by omega) x (run_mem hx)))
  have h2 := lotP_fine hx
  have h3 := run_len xs i
  refine ⟨wrap_id _ (by omega) (by omega), wrap_id _ (by omega) (by omega), ?_, ?_⟩
  · rw [Int.zero_add]; exact wrap_id _ (by omega) (by omega)
  · rw [Int.zero_add]; exact wrap_id _ (by omega) (by omega)
def grpOk (xs : List Lot) (i : Nat) : Prop := ∀ j (hj : j < xs.length), j < i → amtOk (sumQ (ownL (xs.take i) xs[j].account xs[j].instr)) = true ∧ amtOk (sumC (ownL (xs.take i) xs[j].account xs[j].instr)) = true
theorem grp_s {xs : List Lot} {i : Nat} (hi : i < xs.length) (h : grpOk xs i) (h1 : amtOk (sumQ (runL xs (i + 1))) = true) (h2 : amtOk (sumC (runL xs (i + 1))) = true) : grpOk xs (i + 1) := by
  intro j hj hji
  by_cases e : lotIs xs[j].account xs[j].instr xs[i] = true
  · have := lotIs_iff.1 e
    rw [run_at xs i hi, this.1, this.2] at h1 h2
    exact ⟨h1, h2⟩
  · have hne : j ≠ i := fun q => by subst q; exact e (lotIs_self _)
    rw [own_s xs i hi, if_neg e, List.append_nil]
    exact h j hj (by omega)
theorem sums_sub {xs ys : List Lot} (hs : List.Sublist xs ys) (hf : ∀ x ∈ ys, (0 ≤ x.qty ∧ x.qty ≤ 1000000000000000) ∧ 0 ≤ x.cost ∧ x.cost ≤ 1000000000000000) : sumQ xs ≤ sumQ ys ∧ sumC xs ≤ sumC ys := by
  induction hs with
  | slnil => exact ⟨Int.le_refl _, Int.le_refl _⟩
  | cons a _ ih =>
    have h1 := ih (fun x hx => hf x (List.mem_cons_of_mem _ hx))
    have h2 := hf a (List.mem_cons_self ..)
    simp only [sumQ, sumC, List.map_cons, List.sum_cons] at *
    omega
  | cons_cons a _ ih =>
    have h1 := ih (fun x hx => hf x (List.mem_cons_of_mem _ hx))
    simp only [sumQ, sumC, List.map_cons, List.sum_cons] at *
    omega
theorem lots_bad {xs : List Lot} {i : Nat} (hi : i < xs.length) (h : ¬ (amtOk (sumQ (runL xs (i + 1))) = true ∧ amtOk (sumC (runL xs (i + 1))) = true)) : lotsOk xs = false := by
  cases hok : okL lotP lotLt 120 xs with
  | false => rw [lotsOk, hok, Bool.false_and]
  | true =>
    have hf := okL_fine hok
    have hb : badLot xs xs[i] = true := by
      rw [run_at xs i hi] at h
      have hsub : List.Sublist (ownL (xs.take (i + 1)) xs[i].account xs[i].instr) (ownL xs xs[i].account xs[i].instr) := (List.take_sublist _ _).filter _
      have h1 := sums_sub hsub (fun x hx => hf.1 x (List.mem_filter.1 hx).1)
      have h2 := sums_le (ownL (xs.take (i + 1)) xs[i].account xs[i].instr) (fun x hx => hf.1 x (List.mem_of_mem_take (List.mem_filter.1 hx).1))
      cases hbb : badLot xs xs[i] with
      | true => rfl
      | false =>
        exfalso
        apply h
        simp only [badLot, Bool.or_eq_false_iff, Bool.not_eq_false'] at hbb
        have a1 : _ ∧ _ := of_decide_eq_true hbb.1
        have a2 : _ ∧ _ := of_decide_eq_true hbb.2
        exact ⟨decide_eq_true (by omega), decide_eq_true (by omega)⟩
    rw [lotsOk, decide_eq_true (findG_hit (List.getElem_mem hi) hb)]; simp
theorem lots_good {xs : List Lot} (h1 : okL lotP lotLt 120 xs = true) (h : grpOk xs xs.length) : lotsOk xs = true := by
  have : findG (badLot xs) xs = -1 := findG_none fun j hj => by
    have := h j hj hj
    rw [List.take_length] at this
    rw [badLot, this.1, this.2]; rfl
  rw [lotsOk, h1, this]; rfl
theorem c_spec_LotsOk (xs : List Lot) (hn : xs.length ≤ 1000000000) (K : AV → AH → Prop) (hk : K (.one (.c (.bool (lotsOk xs)))) []) : ACalls Tryz.prog 183 [(.one (.im (xs.map lotC)))] [] K := by
  refine acall_c Tryz.f183.results.toList mixed Tryz.func183 rfl rfl (by kernel_rfl) ?_
  intro Q hQ hQO
  simp only [go_sem]
  (try simp only [go_sem]); repeat' (first | (with_reducible first | refine c_split ?_ ?_ | refine w_split ?_ ?_ | refine tw_split ?_ ?_) <;> intro hb <;> try simp only [go_sem, hb] | (first | with_reducible refine d183_0_LBooks5 (by with_unfolding_all rfl) (by kernel_rfl) ?_ | with_reducible refine d183_1_LBooks5 (by with_unfolding_all rfl) (by kernel_rfl) ?_ | fail) <;> try simp only [go_sem] | fail)
  · rw [lotsOk, okL_long (of_decide_eq_true hb), Bool.false_and] at hk
    (try simp only [go_sem]); repeat' (first | (with_reducible first | refine c_split ?_ ?_ | refine w_split ?_ ?_ | refine tw_split ?_ ?_) <;> intro hb <;> try simp only [go_sem, hb] | (first | with_reducible refine d183_0_LBooks5 (by with_unfolding_all rfl) (by kernel_rfl) ?_ | with_reducible refine d183_1_LBooks5 (by with_unfolding_all rfl) (by kernel_rfl) ?_ | fail) <;> try simp only [go_sem] | with_reducible refine hQ _ _ ?_ <;> simp only [Tryz.f183, go_sem])
    exact hk
  · have hlen : xs.length ≤ 120 := by have := of_decide_eq_false hb; omega
    refine for_at (xs.length) [0] (fun i f h => f 3 = (.one (.c (.int .i64 (sumQ (runL xs i))))) ∧ f 4 = (.one (.c (.int .i64 (sumC (runL xs i))))) ∧ f 5 = (.one (.c (.int .i64 (i)))) ∧ h = [] ∧ allTo (rowG lotP lotLt xs) i = true ∧ grpOk xs i) (GC.now ?_) ?_
    · simp only [go_sem, nc_0, true_and]
      exact ⟨rfl, rfl, rfl, fun j hj q => absurd q (Nat.not_lt_zero j)⟩
    · rintro i f h J hi hA ⟨e3, e4, e5, rfl, hP⟩ hJ
      simp only [go_sem] at hA
      simp only [go_sem, hA, e3, e4, e5]
      refine c_split (fun hb => ?_) (fun hb => ?_)
      rotate_left
      · simp only [go_sem, hb, hA, e3, e4, e5]
        obtain rfl := ge_len hb hi
        rw [lots_good (by rw [okL, hP.1, decide_eq_true (by omega)]; rfl) hP.2] at hk
        (try simp only [go_sem, hA, e3, e4, e5]); repeat' (first | (with_reducible first | refine c_split ?_ ?_ | refine w_split ?_ ?_ | refine tw_split ?_ ?_) <;> intro hb <;> try simp only [go_sem, hb, hA, e3, e4, e5] | (first | with_reducible refine d183_0_LBooks5 (by with_unfolding_all rfl) (by kernel_rfl) ?_ | with_reducible refine d183_1_LBooks5 (by with_unfolding_all rfl) (by kernel_rfl) ?_ | fail) <;> try simp only [go_sem, hA, e3, e4, e5] | with_reducible refine hQ _ _ ?_ <;> simp only [Tryz.f183, go_sem, hA, e3, e4, e5])
        exact hk
      have hi := lt_len hb
      have hw := wrap_nat i (by omega)
      have hil : (i : Int) < ((xs.length : Nat) : Int) := Int.ofNat_lt.2 hi
      have hg0 : (xs)[i]? = some ((xs)[i]) := List.getElem?_eq_getElem (by omega)
      simp only [go_sem, hb, hA, e3, e4, e5, hg0]
      try simp only [go_sem, hA, e3, e4, e5, hil, hg0]
      cases hr : rowG lotP lotLt xs i with
      | true =>
        have hall := allTo_s hP.1 hr
        have bad : ¬ (amtOk (sumQ (runL xs (i + 1))) = true ∧ amtOk (sumC (runL xs (i + 1))) = true) → K (.one (.c (.bool (false)))) [] := fun h => by rw [lots_bad hi h] at hk; exact hk
        rcases i with _ | j
        · have g0 : decide ((0 : Int) < 0) = false := by decide
          have z0 : ((0 : Nat) : Int) = 0 := rfl
          rw [rowG_0 hi] at hr
          obtain ⟨-, -, w3, w4⟩ := run_w (i := 0) rfl hi hlen hr
          have e1 : sumQ (runL xs 1) = xs[0].qty := by rw [run_0 xs hi]; simp [sumQ]
          have e2 : sumC (runL xs 1) = xs[0].cost := by rw [run_0 xs hi]; simp [sumC]
          (try simp only [go_sem, hA, e3, e4, e5, hil, hg0, g0, z0, hr, w3, w4, BEq.rfl]); repeat' (first | (with_reducible first | refine c_split ?_ ?_ | refine w_split ?_ ?_ | refine tw_split ?_ ?_) <;> intro hb <;> try simp only [go_sem, hb, hA, e3, e4, e5, hil, hg0, g0, z0, hr, w3, w4, BEq.rfl] | (first | with_reducible refine d183_0_LBooks5 (by with_unfolding_all rfl) (by kernel_rfl) ?_ | with_reducible refine d183_1_LBooks5 (by with_unfolding_all rfl) (by kernel_rfl) ?_ | refine call_c (c_l5Right _ _ ?_) | refine call_c (c_l5Before _ _ _ ?_) | refine call_c (c_spec_AmountOk _ _ ?_) | fail) <;> try simp only [go_sem, hA, e3, e4, e5, hil, hg0, g0, z0, hr, w3, w4, BEq.rfl] | with_reducible refine hQ _ _ ?_ <;> simp only [Tryz.f183, go_sem, hA, e3, e4, e5, hil, hg0, g0, z0, hr, w3, w4, BEq.rfl])
          · exact bad fun q => by rw [e1] at q; rw [q.1] at hb; cases hb
          · rename_i hb1
            exact bad fun q => by rw [e2] at q; rw [q.2] at hb; cases hb
          · rename_i hb1
            have q1 : amtOk (sumQ (runL xs (1))) = true := by rw [e1]; simpa using hb1
            have q2 : amtOk (sumC (runL xs (1))) = true := by rw [e2]; simpa using hb
            refine gc_trim 0 (by decide) (by simp only [go_sem]) (by simp only [go_sem]) (hJ _ _ hi (by simp only [go_sem, hA, e3, e4, e5]) ⟨?_, ?_, ?_, ?_, ?_⟩) <;> try simp only [go_sem, hA, e3, e4, e5, hw, e1, e2]
            all_goals first | exact ⟨hall, grp_s hi hP.2 q1 q2⟩ | rfl | rw [show wrap64 (0 + 1) = ((1 : Nat) : Int) by unfold wrap64; omega]
        · have hj : j < xs.length := by omega
          have hgj : xs[j]? = some xs[j] := List.getElem?_eq_getElem hj
          have g1 : decide ((0 : Int) < ((j + 1 : Nat) : Int)) = true := decide_eq_true (by omega)
          have g2 : wrap64 (((j + 1 : Nat) : Int) - 1) = (j : Int) := by unfold wrap64; omega
          have g3 : (((j + 1 : Nat) : Int) == 0) = false := beq_false_of_ne (by omega)
          have hr2 := hr
          rw [rowG_s hi, Bool.and_eq_true] at hr2
          obtain ⟨hp, hlt⟩ := hr2
          obtain ⟨w1, w2, w3, w4⟩ := run_w hP.1 hi hlen hp
          by_cases ha : xs[j + 1].account = xs[j].account
          · by_cases hb0 : xs[j + 1].instr = xs[j].instr
            · have k1 : (xs[j + 1].account == xs[j].account) = true := beq_iff_eq.2 ha
              have k2 : (xs[j + 1].instr == xs[j].instr) = true := beq_iff_eq.2 hb0
              have e1 : sumQ (runL xs (j + 1 + 1)) = sumQ (runL xs (j + 1)) + xs[j + 1].qty := by rw [run_same hi ha hb0, (sumQ_app _ _).1]
              have e2 : sumC (runL xs (j + 1 + 1)) = sumC (runL xs (j + 1)) + xs[j + 1].cost := by rw [run_same hi ha hb0, (sumQ_app _ _).2]
              (try simp only [go_sem, hA, e3, e4, e5, hil, hg0, g1, g2, g3, hgj, hp, hlt, k1, k2, w1, w2]); repeat' (first | (with_reducible first | refine c_split ?_ ?_ | refine w_split ?_ ?_ | refine tw_split ?_ ?_) <;> intro hb <;> try simp only [go_sem, hb, hA, e3, e4, e5, hil, hg0, g1, g2, g3, hgj, hp, hlt, k1, k2, w1, w2] | (first | with_reducible refine d183_0_LBooks5 (by with_unfolding_all rfl) (by kernel_rfl) ?_ | with_reducible refine d183_1_LBooks5 (by with_unfolding_all rfl) (by kernel_rfl) ?_ | refine call_c (c_l5Right _ _ ?_) | refine call_c (c_l5Before _ _ _ ?_) | refine call_c (c_spec_AmountOk _ _ ?_) | fail) <;> try simp only [go_sem, hA, e3, e4, e5, hil, hg0, g1, g2, g3, hgj, hp, hlt, k1, k2, w1, w2] | with_reducible refine hQ _ _ ?_ <;> simp only [Tryz.f183, go_sem, hA, e3, e4, e5, hil, hg0, g1, g2, g3, hgj, hp, hlt, k1, k2, w1, w2])
              · exact bad fun q => by rw [e1] at q; rw [q.1] at hb; cases hb
              · rename_i hb1
                exact bad fun q => by rw [e2] at q; rw [q.2] at hb; cases hb
              · rename_i hb1
                have q1 : amtOk (sumQ (runL xs (j + 1 + 1))) = true := by rw [e1]; simpa using hb1
                have q2 : amtOk (sumC (runL xs (j + 1 + 1))) = true := by rw [e2]; simpa using hb
                refine gc_trim 0 (by decide) (by simp only [go_sem]) (by simp only [go_sem]) (hJ _ _ hi (by simp only [go_sem, hA, e3, e4, e5]) ⟨?_, ?_, ?_, ?_, ?_⟩) <;> try simp only [go_sem, hA, e3, e4, e5, hw, e1, e2]
                exact ⟨hall, grp_s hi hP.2 q1 q2⟩
            · have k1 : (xs[j + 1].account == xs[j].account) = true := beq_iff_eq.2 ha
              have k2 : (xs[j + 1].instr == xs[j].instr) = false := beq_false_of_ne hb0
              have e1 : sumQ (runL xs (j + 1 + 1)) = xs[j + 1].qty := by rw [run_diff hi hall (fun q => hb0 q.2)]; simp [sumQ]
              have e2 : sumC (runL xs (j + 1 + 1)) = xs[j + 1].cost := by rw [run_diff hi hall (fun q => hb0 q.2)]; simp [sumC]
              (try simp only [go_sem, hA, e3, e4, e5, hil, hg0, g1, g2, g3, hgj, hp, hlt, k1, k2, w3, w4]); repeat' (first | (with_reducible first | refine c_split ?_ ?_ | refine w_split ?_ ?_ | refine tw_split ?_ ?_) <;> intro hb <;> try simp only [go_sem, hb, hA, e3, e4, e5, hil, hg0, g1, g2, g3, hgj, hp, hlt, k1, k2, w3, w4] | (first | with_reducible refine d183_0_LBooks5 (by with_unfolding_all rfl) (by kernel_rfl) ?_ | with_reducible refine d183_1_LBooks5 (by with_unfolding_all rfl) (by kernel_rfl) ?_ | refine call_c (c_l5Right _ _ ?_) | refine call_c (c_l5Before _ _ _ ?_) | refine call_c (c_spec_AmountOk _ _ ?_) | fail) <;> try simp only [go_sem, hA, e3, e4, e5, hil, hg0, g1, g2, g3, hgj, hp, hlt, k1, k2, w3, w4] | with_reducible refine hQ _ _ ?_ <;> simp only [Tryz.f183, go_sem, hA, e3, e4, e5, hil, hg0, g1, g2, g3, hgj, hp, hlt, k1, k2, w3, w4])
              · exact bad fun q => by rw [e1] at q; rw [q.1] at hb; cases hb
              · rename_i hb1
                exact bad fun q => by rw [e2] at q; rw [q.2] at hb; cases hb
              · rename_i hb1
                have q1 : amtOk (sumQ (runL xs (j + 1 + 1))) = true := by rw [e1]; simpa using hb1
                have q2 : amtOk (sumC (runL xs (j + 1 + 1))) = true := by rw [e2]; simpa using hb
                refine gc_trim 0 (by decide) (by simp only [go_sem]) (by simp only [go_sem]) (hJ _ _ hi (by simp only [go_sem, hA, e3, e4, e5]) ⟨?_, ?_, ?_, ?_, ?_⟩) <;> try simp only [go_sem, hA, e3, e4, e5, hw, e1, e2]
                exact ⟨hall, grp_s hi hP.2 q1 q2⟩
          · have k1 : (xs[j + 1].account == xs[j].account) = false := beq_false_of_ne ha
            have e1 : sumQ (runL xs (j + 1 + 1)) = xs[j + 1].qty := by rw [run_diff hi hall (fun q => ha q.1)]; simp [sumQ]
            have e2 : sumC (runL xs (j + 1 + 1)) = xs[j + 1].cost := by rw [run_diff hi hall (fun q => ha q.1)]; simp [sumC]
            (try simp only [go_sem, hA, e3, e4, e5, hil, hg0, g1, g2, g3, hgj, hp, hlt, k1, w3, w4]); repeat' (first | (with_reducible first | refine c_split ?_ ?_ | refine w_split ?_ ?_ | refine tw_split ?_ ?_) <;> intro hb <;> try simp only [go_sem, hb, hA, e3, e4, e5, hil, hg0, g1, g2, g3, hgj, hp, hlt, k1, w3, w4] | (first | with_reducible refine d183_0_LBooks5 (by with_unfolding_all rfl) (by kernel_rfl) ?_ | with_reducible refine d183_1_LBooks5 (by with_unfolding_all rfl) (by kernel_rfl) ?_ | refine call_c (c_l5Right _ _ ?_) | refine call_c (c_l5Before _ _ _ ?_) | refine call_c (c_spec_AmountOk _ _ ?_) | fail) <;> try simp only [go_sem, hA, e3, e4, e5, hil, hg0, g1, g2, g3, hgj, hp, hlt, k1, w3, w4] | with_reducible refine hQ _ _ ?_ <;> simp only [Tryz.f183, go_sem, hA, e3, e4, e5, hil, hg0, g1, g2, g3, hgj, hp, hlt, k1, w3, w4])
            · exact bad fun q => by rw [e1] at q; rw [q.1] at hb; cases hb
            · rename_i hb1
              exact bad fun q => by rw [e2] at q; rw [q.2] at hb; cases hb
            · rename_i hb1
              have q1 : amtOk (sumQ (runL xs (j + 1 + 1))) = true := by rw [e1]; simpa using hb1
              have q2 : amtOk (sumC (runL xs (j + 1 + 1))) = true := by rw [e2]; simpa using hb
              refine gc_trim 0 (by decide) (by simp only [go_sem]) (by simp only [go_sem]) (hJ _ _ hi (by simp only [go_sem, hA, e3, e4, e5]) ⟨?_, ?_, ?_, ?_, ?_⟩) <;> try simp only [go_sem, hA, e3, e4, e5, hw, e1, e2]
              exact ⟨hall, grp_s hi hP.2 q1 q2⟩
      | false =>
        rw [lotsOk, okL_no hr hi, Bool.false_and] at hk
        rcases i with _ | j
        · have g0 : decide ((0 : Int) < ((0 : Nat) : Int)) = false := by decide
          rw [rowG_0 hi] at hr
          (try simp only [go_sem, hA, e3, e4, e5, hil, hg0, g0, hr]); repeat' (first | (with_reducible first | refine c_split ?_ ?_ | refine w_split ?_ ?_ | refine tw_split ?_ ?_) <;> intro hb <;> try simp only [go_sem, hb, hA, e3, e4, e5, hil, hg0, g0, hr] | (first | with_reducible refine d183_0_LBooks5 (by with_unfolding_all rfl) (by kernel_rfl) ?_ | with_reducible refine d183_1_LBooks5 (by with_unfolding_all rfl) (by kernel_rfl) ?_ | refine call_c (c_l5Right _ _ ?_) | refine call_c (c_l5Before _ _ _ ?_) | fail) <;> try simp only [go_sem, hA, e3, e4, e5, hil, hg0, g0, hr] | with_reducible refine hQ _ _ ?_ <;> simp only [Tryz.f183, go_sem, hA, e3, e4, e5, hil, hg0, g0, hr])
          exact hk
        · have hj : j < xs.length := by omega
          have hgj : xs[j]? = some xs[j] := List.getElem?_eq_getElem hj
          have g1 : decide ((0 : Int) < ((j + 1 : Nat) : Int)) = true := decide_eq_true (by omega)
          have g2 : wrap64 (((j + 1 : Nat) : Int) - 1) = (j : Int) := by unfold wrap64; omega
          rw [rowG_s hi] at hr
          cases hp : lotP xs[j + 1] with
          | false =>
            (try simp only [go_sem, hA, e3, e4, e5, hil, hg0, g1, g2, hgj, hp]); repeat' (first | (with_reducible first | refine c_split ?_ ?_ | refine w_split ?_ ?_ | refine tw_split ?_ ?_) <;> intro hb <;> try simp only [go_sem, hb, hA, e3, e4, e5, hil, hg0, g1, g2, hgj, hp] | (first | with_reducible refine d183_0_LBooks5 (by with_unfolding_all rfl) (by kernel_rfl) ?_ | with_reducible refine d183_1_LBooks5 (by with_unfolding_all rfl) (by kernel_rfl) ?_ | refine call_c (c_l5Right _ _ ?_) | refine call_c (c_l5Before _ _ _ ?_) | fail) <;> try simp only [go_sem, hA, e3, e4, e5, hil, hg0, g1, g2, hgj, hp] | with_reducible refine hQ _ _ ?_ <;> simp only [Tryz.f183, go_sem, hA, e3, e4, e5, hil, hg0, g1, g2, hgj, hp])
            exact hk
          | true =>
            rw [hp, Bool.true_and] at hr
            (try simp only [go_sem, hA, e3, e4, e5, hil, hg0, g1, g2, hgj, hp, hr]); repeat' (first | (with_reducible first | refine c_split ?_ ?_ | refine w_split ?_ ?_ | refine tw_split ?_ ?_) <;> intro hb <;> try simp only [go_sem, hb, hA, e3, e4, e5, hil, hg0, g1, g2, hgj, hp, hr] | (first | with_reducible refine d183_0_LBooks5 (by with_unfolding_all rfl) (by kernel_rfl) ?_ | with_reducible refine d183_1_LBooks5 (by with_unfolding_all rfl) (by kernel_rfl) ?_ | refine call_c (c_l5Right _ _ ?_) | refine call_c (c_l5Before _ _ _ ?_) | fail) <;> try simp only [go_sem, hA, e3, e4, e5, hil, hg0, g1, g2, hgj, hp, hr] | with_reducible refine hQ _ _ ?_ <;> simp only [Tryz.f183, go_sem, hA, e3, e4, e5, hil, hg0, g1, g2, hgj, hp, hr])
            exact hk
end Go.Proofs.YtlefjpbhbiajfaaGreat
end
section
namespace Go.Proofs.YtlefjpbhbiajfaaGreat
open Go.BL Go.RowKit
set_option linter.unusedVariables false
set_option linter.unusedSimpArgs false
set_option maxRecDepth 100000
attribute [local go_sem] accountC balC lotC tradeC booksC
def brP (b : Books) (x : Bal) : Bool := !(kindOf b.accounts x.account == 0) && !(kindOf b.instrs x.instr == 0) && !((kindOf b.accounts x.account == 1) && decide (x.amount < 0)) && (sumB b.bals x.instr == 0)
def lrP (b : Books) (x : Lot) : Bool := (kindOf b.accounts x.account == 1) && (kindOf b.instrs x.instr == 2) && !decide (b.lot < x.no)
def pairP (b : Books) (a x : Account) : Bool := !((a.kind == 1) && (x.kind == 2)) || (sumQ (ownL b.lots a.no x.no) == balV b.bals a.no x.no)
def trdP (b : Books) (t : Trade) : Bool := (kindOf b.accounts t.buyer == 1) && (kindOf b.accounts t.seller == 1) && (kindOf b.instrs t.paper == 2) && (kindOf b.instrs t.cash == 1)
def lotsR (b : Books) : Bool := b.lots.all (lrP b) && b.accounts.all fun a => b.instrs.all (pairP b a)
def listsOk (b : Books) : Bool := accountsOk b.accounts && instrsOk b.instrs && balsOk b.bals && lotsOk b.lots && tradesOk b.trades && decide (0 ≤ b.lot ∧ b.lot ≤ 1000000000)
def booksOk (b : Books) : Bool := listsOk b && b.bals.all (brP b) && lotsR b && b.trades.all (trdP b)
structure Small (b : Books) : Prop where
  ha : b.accounts.length ≤ 1000000000
  hi : b.instrs.length ≤ 1000000000
  hb : b.bals.length ≤ 1000000000
  hl : b.lots.length ≤ 1000000000
  ht : b.trades.length ≤ 1000000000
structure Large (b : Books) : Prop where
  ha : b.accounts.length ≤ 1000000000000000
  hi : b.instrs.length ≤ 1000000000000000
  hb : b.bals.length ≤ 1000000000000000
  hl : b.lots.length ≤ 1000000000000000
  ht : b.trades.length ≤ 1000000000000000
theorem all_no {α : Type} {p : α → Bool} {xs : List α} (h : noneTo (fun x => !p x) xs xs.length) : xs.all p = true := by
  rw [List.all_eq_true]
  intro x hx
  obtain ⟨i, hi, rfl⟩ := List.mem_iff_getElem.1 hx
  simpa using h i hi hi
theorem all_bad {α : Type} {p : α → Bool} {xs : List α} {i : Nat} (hi : i < xs.length) (h : p xs[i] = false) : xs.all p = false := by
  cases ha : xs.all p with
  | false => rfl
  | true => rw [(List.all_eq_true.1 ha) _ (List.getElem_mem hi)] at h; cases h
theorem not_ff {b : Bool} (h : b = true) : (!b) = false := by rw [h]; rfl
theorem c_balsRight (b : Books) (hs : Small b) (hok : balsOk b.bals = true) (K : AV → AH → Prop) (hk : K (.one (.c (.bool (b.bals.all (brP b))))) []) : ACalls Tryz.prog 194 [.agg (booksC b)] [] K := by
  have hsb := hs.hb
  refine acall_c Tryz.f194.results.toList mixed Tryz.func194 rfl rfl (by kernel_rfl) ?_
  intro Q hQ hQO
  simp only [go_sem]
  refine for_at (b.bals.length) [1, 7, 8] (fun i f h => f 9 = (.one (.c (.int .i64 (i)))) ∧ h = [.own 0 31 6 (some 1) [booksC b]] ∧ noneTo (fun x => !brP b x) b.bals i) (GC.now ?_) ?_
  · simp only [go_sem, nc_0, true_and]
    exact noneTo_0 _ _
  · rintro i f h J hi hA ⟨e9, rfl, hP⟩ hJ
    simp only [go_sem] at hA
    simp only [go_sem, hA, e9]
    refine c_split (fun hb => ?_) (fun hb => ?_)
    rotate_left
    · simp only [go_sem, hb, hA, e9]
      obtain rfl := ge_len hb hi
      (try simp only [go_sem, hA, e9]); repeat' (first | (with_reducible first | refine c_split ?_ ?_ | refine w_split ?_ ?_) <;> intro hb <;> try simp only [go_sem, hb, hA, e9] | with_reducible refine hQ _ _ ?_ <;> simp only [Tryz.f194, go_sem, hA, e9])
      rw [all_no hP] at hk
      exact hk
    have hi := lt_len hb
    have hw := wrap_nat i (by omega)
    have hil : (i : Int) < ((b.bals.length : Nat) : Int) := Int.ofNat_lt.2 hi
    have hg0 : (b.bals)[i]? = some ((b.bals)[i]) := List.getElem?_eq_getElem (by omega)
    simp only [go_sem, hb, hA, e9, hg0]
    try simp only [go_sem, hA, e9, hil, hg0]
    cases hr : brP b b.bals[i] with
    | true =>
      have hbr := hr
      simp only [brP, Bool.and_eq_true] at hr
      obtain ⟨⟨⟨f1, f2⟩, f3⟩, f4⟩ := hr
      have f1 := not_tt f1
      have f2 := not_tt f2
      have f3 := not_tt f3
      cases h1 : (kindOf b.accounts b.bals[i].account == 1) with
      | true =>
        rw [h1, Bool.true_and] at f3
        (try simp only [go_sem, hA, e9, hil, hg0, f1, f2, f3, f4, h1]); repeat' (first | (with_reducible first | refine c_split ?_ ?_ | refine w_split ?_ ?_) <;> intro hb <;> try simp only [go_sem, hb, hA, e9, hil, hg0, f1, f2, f3, f4, h1] | (first | refine call_c (c_accountKind _ _ hs.ha _ ?_) | refine call_c (c_instrKind _ _ hs.hi _ ?_) | refine call_c (c_balsSum _ _ hs.hb hok _ ?_) | fail) <;> try simp only [go_sem, hA, e9, hil, hg0, f1, f2, f3, f4, h1] | fail)
        refine gc_trim 1 (by decide) (by simp only [go_sem]) (by simp only [go_sem]) (hJ _ _ hi (by simp only [go_sem, hA, e9]) ⟨?_, ?_, ?_⟩) <;> try simp only [go_sem, hA, e9, hw]
        exact noneTo_s hP hi (not_ff hbr)
      | false =>
        (try simp only [go_sem, hA, e9, hil, hg0, f1, f2, f4, h1]); repeat' (first | (with_reducible first | refine c_split ?_ ?_ | refine w_split ?_ ?_) <;> intro hb <;> try simp only [go_sem, hb, hA, e9, hil, hg0, f1, f2, f4, h1] | (first | refine call_c (c_accountKind _ _ hs.ha _ ?_) | refine call_c (c_instrKind _ _ hs.hi _ ?_) | refine call_c (c_balsSum _ _ hs.hb hok _ ?_) | fail) <;> try simp only [go_sem, hA, e9, hil, hg0, f1, f2, f4, h1] | fail)
        refine gc_trim 1 (by decide) (by simp only [go_sem]) (by simp only [go_sem]) (hJ _ _ hi (by simp only [go_sem, hA, e9]) ⟨?_, ?_, ?_⟩) <;> try simp only [go_sem, hA, e9, hw]
        exact noneTo_s hP hi (not_ff hbr)
    | false =>
      rw [all_bad hi hr] at hk
      (try simp only [go_sem, hA, e9, hil, hg0]); repeat' (first | (with_reducible first | refine c_split ?_ ?_ | refine w_split ?_ ?_) <;> intro hb <;> try simp only [go_sem, hb, hA, e9, hil, hg0] | (first | refine call_c (c_accountKind _ _ hs.ha _ ?_) | refine call_c (c_instrKind _ _ hs.hi _ ?_) | refine call_c (c_balsSum _ _ hs.hb hok _ ?_) | fail) <;> try simp only [go_sem, hA, e9, hil, hg0] | with_reducible refine hQ _ _ ?_ <;> simp only [Tryz.f194, go_sem, hA, e9, hil, hg0])
      all_goals first | exact hk | exact (Bool.eq_false_iff.1 hr (by clear hr hJ hA hQ hQO; simp only [brP]; simp_all <;> omega)).elim
theorem c_l6Bals (b : Books) (hs : Small b) (ha : accountsOk b.accounts = true) (hi0 : instrsOk b.instrs = true) (hok : balsOk b.bals = true) (K : AV → AH → Prop) (hk : K (.one (.c (.bool (b.bals.all (brP b))))) []) : ACalls Tryz.prog 185 [.agg (booksC b)] [] K := by
  have hsb := hs.hb
  refine acall_c Tryz.f185.results.toList mixed Tryz.func185 rfl rfl (by kernel_rfl) ?_
  intro Q hQ hQO
  simp only [go_sem]
  refine for_at (b.bals.length) [1] (fun i f h => f 3 = (.one (.c (.int .i64 (i)))) ∧ h = [.own 0 31 6 (some 1) [booksC b]] ∧ noneTo (fun x => !brP b x) b.bals i) (GC.now ?_) ?_
  · simp only [go_sem, nc_0, true_and]
    exact noneTo_0 _ _
  · rintro i f h J hi hA ⟨e3, rfl, hP⟩ hJ
    simp only [go_sem] at hA
    simp only [go_sem, hA, e3]
    refine c_split (fun hb => ?_) (fun hb => ?_)
    rotate_left
    · simp only [go_sem, hb, hA, e3]
      obtain rfl := ge_len hb hi
      (try simp only [go_sem, hA, e3]); repeat' (first | (with_reducible first | refine c_split ?_ ?_ | refine w_split ?_ ?_) <;> intro hb <;> try simp only [go_sem, hb, hA, e3] | with_reducible refine hQ _ _ ?_ <;> simp only [Tryz.f185, go_sem, hA, e3])
      rw [all_no hP] at hk
      exact hk
    have hi := lt_len hb
    have hw := wrap_nat i (by omega)
    have hil : (i : Int) < ((b.bals.length : Nat) : Int) := Int.ofNat_lt.2 hi
    have hg0 : (b.bals)[i]? = some ((b.bals)[i]) := List.getElem?_eq_getElem (by omega)
    simp only [go_sem, hb, hA, e3, hg0]
    try simp only [go_sem, hA, e3, hil, hg0]
    have hsum : ∀ s : Int, amtOk s = false → s ≠ 0 := fun s h q => by subst q; simp [amtOk] at h
    cases hr : brP b b.bals[i] with
    | true =>
      have hbr := hr
      simp only [brP, Bool.and_eq_true] at hr
      obtain ⟨⟨⟨f1, f2⟩, f3⟩, f4⟩ := hr
      have f1 := not_tt f1
      have f2 := not_tt f2
      have f3 := not_tt f3
      have f5 : sumB b.bals b.bals[i].instr = 0 := eq_of_beq f4
      have f6 : amtOk 0 = true := rfl
      cases h1 : (kindOf b.accounts b.bals[i].account == 1) with
      | true =>
        rw [h1, Bool.true_and] at f3
        (try simp only [go_sem, hA, e3, hil, hg0, f1, f2, f3, f5, f6, h1, if_true, BEq.rfl]); repeat' (first | (with_reducible first | refine c_split ?_ ?_ | refine w_split ?_ ?_) <;> intro hb <;> try simp only [go_sem, hb, hA, e3, hil, hg0, f1, f2, f3, f5, f6, h1, if_true, BEq.rfl] | (first | refine call_c (c_AccountKind _ _ hs.ha ha _ ?_) | refine call_c (c_InstrKind _ _ hs.hi hi0 _ ?_) | refine call_c (c_BalsSum _ _ hs.hb hok _ ?_) | fail) <;> try simp only [go_sem, hA, e3, hil, hg0, f1, f2, f3, f5, f6, h1, if_true, BEq.rfl] | fail)
        refine gc_trim 1 (by decide) (by simp only [go_sem]) (by simp only [go_sem]) (hJ _ _ hi (by simp only [go_sem, hA, e3]) ⟨?_, ?_, ?_⟩) <;> try simp only [go_sem, hA, e3, hw]
        exact noneTo_s hP hi (not_ff hbr)
      | false =>
        (try simp only [go_sem, hA, e3, hil, hg0, f1, f2, f5, f6, h1, if_true, BEq.rfl]); repeat' (first | (with_reducible first | refine c_split ?_ ?_ | refine w_split ?_ ?_) <;> intro hb <;> try simp only [go_sem, hb, hA, e3, hil, hg0, f1, f2, f5, f6, h1, if_true, BEq.rfl] | (first | refine call_c (c_AccountKind _ _ hs.ha ha _ ?_) | refine call_c (c_InstrKind _ _ hs.hi hi0 _ ?_) | refine call_c (c_BalsSum _ _ hs.hb hok _ ?_) | fail) <;> try simp only [go_sem, hA, e3, hil, hg0, f1, f2, f5, f6, h1, if_true, BEq.rfl] | fail)
        refine gc_trim 1 (by decide) (by simp only [go_sem]) (by simp only [go_sem]) (hJ _ _ hi (by simp only [go_sem, hA, e3]) ⟨?_, ?_, ?_⟩) <;> try simp only [go_sem, hA, e3, hw]
        exact noneTo_s hP hi (not_ff hbr)
    | false =>
      rw [all_bad hi hr] at hk
      (try simp only [go_sem, hA, e3, hil, hg0]); repeat' (first | (with_reducible first | refine c_split ?_ ?_ | refine w_split ?_ ?_) <;> intro hb <;> try simp only [go_sem, hb, hA, e3, hil, hg0] | (first | refine call_c (c_AccountKind _ _ hs.ha ha _ ?_) | refine call_c (c_InstrKind _ _ hs.hi hi0 _ ?_) | refine call_c (c_BalsSum _ _ hs.hb hok _ ?_) | fail) <;> try simp only [go_sem, hA, e3, hil, hg0] | with_reducible refine hQ _ _ ?_ <;> simp only [Tryz.f185, go_sem, hA, e3, hil, hg0])
      all_goals first | exact hk | exact (Bool.eq_false_iff.1 hr (by clear hr hJ hA hQ hQO; simp only [brP]; simp_all <;> omega)).elim
end Go.Proofs.YtlefjpbhbiajfaaGreat
end
