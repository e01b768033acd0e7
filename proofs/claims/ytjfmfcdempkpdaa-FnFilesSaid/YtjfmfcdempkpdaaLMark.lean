/- Mark: what the laws' own functions over disks compute: copies, sizes, comparisons, marks. Conditions: none. -/
import Derived.Test.YtjfmfcdempkpdaaLG
import Derived.Test.YtjfmfcdempkpdaaLT
import Derived.Test.YtjfmfcdempkpdaaLSegs
namespace Go.Proofs.Ytjfmfcdempkpdaa
open Go.BL Go.RowKit
set_option linter.unusedVariables false
set_option linter.unusedSimpArgs false
set_option maxRecDepth 100000
attribute [local go_sem] fileC diskC fileC_len
/-- The digits of a number, in front of what stands. -/
def digitsOf : Nat → Int → ByteArray → ByteArray
  | 0, _, out => out
  | n + 1, cur, out => if 0 < cur then digitsOf n (cur / 10) (strOf [IntKind.wrap .u8 (wrap64 (48 + cur.tmod 10))] ++ out) else out
def markS (k : Int) : ByteArray := if k ≤ 0 then ⟨#[109, 48]⟩ else ⟨#[109]⟩ ++ digitsOf (k.toNat + 1) k ⟨#[]⟩
theorem c_markText (k : Int) (K : AV → AH → Prop) (hk1 : k ≤ 4000000000) (hk : K (.one (.c (.string (markS k)))) []) : ACalls Try.prog 74 [(.one (.c (.int .i64 (k))))] [] K := by
  have h10 : (10 : Int) ≠ 0 := by omega
  refine acall_c Try.f74.results.toList mixed Try.func74 rfl rfl (by kernel_rfl) ?_
  intro Q hQ hQO
  simp only [go_sem]
  refine c_split (fun hb => ?_) (fun hb => ?_) <;> simp only [go_sem, hb]
  · (try simp only [go_sem]); repeat' (first | (with_reducible refine c_split (fun hb => ?_) (fun hb => ?_) <;> try simp only [go_sem, hb]) | (with_reducible refine w_split (fun hb => ?_) (fun hb => ?_) <;> try simp only [go_sem, hb]) | (with_reducible refine hQ _ _ ?_ <;> simp only [Try.f74, go_sem]))
    rw [markS, if_pos (of_decide_eq_true hb)] at hk
    exact hk
  have hk0 := of_decide_eq_false hb
  rw [markS, if_neg hk0] at hk
  refine while_at (α := Int × ByteArray × Nat) (fun ⟨cur, out, n⟩ => cur.toNat) [] (fun ⟨cur, out, n⟩ f h => f 0 = (.one (.c (.int .i64 (cur)))) ∧ f 3 = (.one (.c (.string (out)))) ∧ h = [] ∧ 0 ≤ cur ∧ cur.toNat < n ∧ (out.size : Int) + cur ≤ k ∧ digitsOf (k.toNat + 1) k ⟨#[]⟩ = digitsOf n cur out) (k, ⟨#[]⟩, k.toNat + 1) (GC.now ?_) ?_
  · simp only [go_sem, nc_0, true_and]
    simp; omega
  · rintro ⟨cur, out, n⟩ f h J hA ⟨e0, e3, rfl, hP⟩ hJ
    simp only [go_sem] at hA
    try dsimp only at hJ
    simp only [go_sem, hA, e0, e3]
    obtain ⟨hc0, hn, hsz, hdg⟩ := hP
    obtain ⟨n, rfl⟩ : ∃ q, n = q + 1 := ⟨n - 1, by omega⟩
    refine c_split (fun hb => ?_) (fun hb => ?_) <;> simp only [go_sem, hb, hA, e0, e3]
    · have hp := of_decide_eq_true hb
      have hd : cur.tdiv 10 = cur / 10 := Int.tdiv_eq_ediv_of_nonneg hc0
      have hw : wrap64 (cur / 10) = cur / 10 := by unfold wrap64; omega
      have hs1 : (strOf [IntKind.wrap .u8 (wrap64 (48 + cur.tmod 10))]).size + out.size ≤ 9223372036854775807 := by
        rw [strOf_size]; simp; omega
      (try simp only [go_sem, hA, e0, e3, ne_eq, h10, not_false_eq_true, b_rem, b_quo, hs1]); repeat' (first | (with_reducible refine c_split (fun hb => ?_) (fun hb => ?_) <;> try simp only [go_sem, hb, hA, e0, e3, ne_eq, h10, not_false_eq_true, b_rem, b_quo, hs1]) | (with_reducible refine w_split (fun hb => ?_) (fun hb => ?_) <;> try simp only [go_sem, hb, hA, e0, e3, ne_eq, h10, not_false_eq_true, b_rem, b_quo, hs1]) | (fail))
      refine gc_trim 0 (by decide) (by simp only [go_sem]) (by simp only [go_sem, hd, hw]) (hJ (cur / 10, strOf [IntKind.wrap .u8 (wrap64 (48 + cur.tmod 10))] ++ out, n) _ _ (by dsimp only; omega) (by simp only [go_sem, hA, e0, e3]) ⟨?_, ?_, ?_, ?_⟩) <;> try simp only [go_sem, hA, e0, e3, hd, hw]
      refine ⟨by omega, by omega, ?_, ?_⟩
      · rw [strOf_size]; simp; omega
      · rw [hdg, digitsOf, if_pos hp]
    · have hs2 : (ByteArray.mk #[109]).size + out.size ≤ 9223372036854775807 := by
        show 1 + out.size ≤ _
        omega
      rw [b_sadd (hs := hs2)]
      simp only [go_sem]
      (try simp only [go_sem]); repeat' (first | (with_reducible refine c_split (fun hb => ?_) (fun hb => ?_) <;> try simp only [go_sem, hb]) | (with_reducible refine w_split (fun hb => ?_) (fun hb => ?_) <;> try simp only [go_sem, hb]) | (with_reducible refine hQ _ _ ?_ <;> simp only [Try.f74, go_sem]))
      rw [hdg, digitsOf, if_neg (of_decide_eq_false hb)] at hk
      exact hk
/-! ### Copies -/
theorem c_toFile (f : File) (K : AV → AH → Prop) (hk : K (.agg (fileC f)) []) : ACalls Try.prog 97 [.agg (fileC f)] [] K := by
  refine acall_c Try.f97.results.toList mixed Try.func97 rfl rfl (by kernel_rfl) ?_
  intro Q hQ hQO
  simp only [go_sem]
  (try simp only [go_sem]); repeat' (first | (with_reducible refine c_split (fun hb => ?_) (fun hb => ?_) <;> try simp only [go_sem, hb]) | (with_reducible refine w_split (fun hb => ?_) (fun hb => ?_) <;> try simp only [go_sem, hb]) | (with_reducible refine hQ _ _ ?_ <;> simp only [Try.f97, go_sem]))
  exact hk
theorem c_toFileS (xs : List File) (hn : xs.length ≤ 1000000000) (K : AV → AH → Prop) (hk : K (.one (.sl 0 0 0 xs.length)) [.own 0 76 3 (some xs.length) (xs.map fileC)]) : ACalls Try.prog 60 [(.one (.im (xs.map fileC)))] [] K := by
  refine acall_c Try.f60.results.toList mixed Try.func60 rfl rfl (by kernel_rfl) ?_
  intro Q hQ hQO
  simp only [go_sem]
  refine ⟨by omega, Nat.le_trans hn (by decide), ?_⟩
  refine for_at (xs.length) [0, 3] (fun i f h => f 4 = (.one (.c (.int .i64 (i)))) ∧ h = [.own 0 76 3 (some xs.length) ((fillR (fun j => xs[j]?.getD ⟨0, ⟨#[]⟩, ⟨#[]⟩⟩) (List.replicate xs.length ⟨0, ⟨#[]⟩, ⟨#[]⟩⟩) i).map fileC)]) (GC.now ?_) ?_
  · simp only [go_sem, nc_0, true_and, fill_0]
  · rintro i f h J hi hA ⟨e4, rfl⟩ hJ
    simp only [go_sem, fill_0] at hA
    simp only [go_sem, hA, e4, fill_0]
    refine c_split (fun hb => ?_) (fun hb => ?_)
    rotate_left
    · simp only [go_sem, hb, hA, e4, fill_0]
      obtain rfl := ge_len hb hi
      (try simp only [go_sem, hA, e4, fill_0, fill_copy xs _ _ List.length_replicate]); repeat' (first | (with_reducible refine c_split (fun hb => ?_) (fun hb => ?_) <;> try simp only [go_sem, hb, hA, e4, fill_0, fill_copy xs _ _ List.length_replicate]) | (with_reducible refine w_split (fun hb => ?_) (fun hb => ?_) <;> try simp only [go_sem, hb, hA, e4, fill_0, fill_copy xs _ _ List.length_replicate]) | (fail))
      refine hQO [0] _ _ (GC.now ?_) <;> simp only [Try.f60, go_sem, List.nodup_cons, List.nodup_nil, List.mem_cons, List.not_mem_nil, or_false, not_false_eq_true, List.idxOf?_cons, List.idxOf?_nil, Option.map_none]
      exact hk
    have hi := lt_len hb
    have hw := wrap_nat i (by omega)
    have hil : (i : Int) < ((xs.length : Nat) : Int) := Int.ofNat_lt.2 hi
    have hg0 : (xs)[i]? = some ((xs)[i]) := List.getElem?_eq_getElem (by omega)
    simp only [go_sem, hb, hA, e4, fill_0, hg0]
    try simp only [go_sem, hA, e4, fill_0, hil, hg0]
    have hold := fill_get (fun j => xs[j]?.getD (⟨0, ⟨#[]⟩, ⟨#[]⟩⟩ : File)) (List.replicate xs.length ⟨0, ⟨#[]⟩, ⟨#[]⟩⟩) i
    rw [List.getElem?_replicate, if_pos hi] at hold
    have hset := fill_set (fun j => xs[j]?.getD (⟨0, ⟨#[]⟩, ⟨#[]⟩⟩ : File)) (List.replicate xs.length ⟨0, ⟨#[]⟩, ⟨#[]⟩⟩) i (by simpa using hi) xs[i] (by rw [hg0]; rfl)
    (try simp only [go_sem, hA, e4, fill_0, hil, hg0, hold]); repeat' (first | (with_reducible refine c_split (fun hb => ?_) (fun hb => ?_) <;> try simp only [go_sem, hb, hA, e4, fill_0, hil, hg0, hold]) | (with_reducible refine w_split (fun hb => ?_) (fun hb => ?_) <;> try simp only [go_sem, hb, hA, e4, fill_0, hil, hg0, hold]) | (refine call_c (c_toFile _ _ ?_) <;> try simp only [go_sem, hA, e4, fill_0, hil, hg0, hold]) | (fail))
    refine gc_trim 1 (by decide) (by simp only [go_sem]) (by simp only [go_sem]) (hJ _ _ hi (by simp only [go_sem, hA, e4, fill_0]) ⟨?_, ?_⟩) <;> try simp only [go_sem, hA, e4, fill_0, hw, hset]
theorem c_toDisk (d : Disk) (hn : d.files.length ≤ 1000000000) (K : AV → AH → Prop) (hk : K (.agg [.c (.int .i64 (d.room)), .sl 0 0 0 d.files.length]) [.own 0 76 3 (some d.files.length) (d.files.map fileC)]) : ACalls Try.prog 18 [.agg (diskC d)] [] K := by
  refine acall_c Try.f18.results.toList mixed Try.func18 rfl rfl (by kernel_rfl) ?_
  intro Q hQ hQO
  simp only [go_sem]
  (try simp only [go_sem]); repeat' (first | (with_reducible refine c_split (fun hb => ?_) (fun hb => ?_) <;> try simp only [go_sem, hb]) | (with_reducible refine w_split (fun hb => ?_) (fun hb => ?_) <;> try simp only [go_sem, hb]) | (refine call_c (c_toFileS d.files hn _ ?_) <;> try simp only [go_sem]) | (fail))
  refine hQO [3] _ _ (GC.now ?_) <;> simp only [Try.f18, go_sem, List.nodup_cons, List.nodup_nil, List.mem_cons, List.not_mem_nil, or_false, not_false_eq_true, List.idxOf?_cons, List.idxOf?_nil, Option.map_none]
  exact hk
/-! ### Sizes -/
theorem c_szFile (f : File) (left : Int) (hb : f.safe.size ≤ 1000000000000000) (hc : f.late.size ≤ 1000000000000000) (h0 : 0 ≤ left) (h1 : left ≤ 1048576) (K : AV → AH → Prop) (hk : ∀ r, (0 ≤ r → r = left - ((f.safe.size : Int) + f.late.size)) → K (.one (.c (.int .i64 (r)))) []) : ACalls Try.prog 96 [.agg (fileC f), (.one (.c (.int .i64 (left))))] [] K := by
  refine acall_c Try.f96.results.toList mixed Try.func96 rfl rfl (by kernel_rfl) ?_
  intro Q hQ hQO
  simp only [go_sem]
  (try simp only [go_sem]); repeat' (first | (with_reducible refine c_split (fun hb => ?_) (fun hb => ?_) <;> try simp only [go_sem, hb]) | (with_reducible refine w_split (fun hb => ?_) (fun hb => ?_) <;> try simp only [go_sem, hb]) | (with_reducible refine hQ _ _ ?_ <;> simp only [Try.f96, go_sem]))
  · exact hk _ (by intro q; omega)
  · exact hk _ (by intro q; omega)
  · refine hk _ ?_
    intro q
    have q1 : ¬ wrap64 (wrap64 (left - (f.safe.size : Int)) - (f.late.size : Int)) < 0 := of_decide_eq_false (by assumption)
    have q2 : ¬ wrap64 (left - (f.safe.size : Int)) < 0 := of_decide_eq_false (by assumption)
    unfold wrap64 at *
    omega
def SizedF (fs : List File) : Prop := ∀ f ∈ fs, f.safe.size ≤ 1000000000000000 ∧ f.late.size ≤ 1000000000000000
theorem roomTo_nonneg (fs : List File) : ∀ i, 0 ≤ roomTo fs i
  | 0 => by simp [roomTo]
  | i + 1 => by
    have := roomTo_nonneg fs i
    rw [roomTo]
    split
    · rename_i f _
      exact Int.add_nonneg this (Int.add_nonneg (Int.natCast_nonneg _) (Int.natCast_nonneg _))
    · omega
theorem c_szFileS (fs : List File) (left : Int) (hz : SizedF fs) (hn : fs.length ≤ 1000000000000000) (h0 : 0 ≤ left) (h1 : left ≤ 1048576) (K : AV → AH → Prop) (hk : ∀ r, (0 ≤ r → r = left - (fs.length + roomTo fs fs.length)) → K (.one (.c (.int .i64 (r)))) []) : ACalls Try.prog 56 [(.one (.im (fs.map fileC))), (.one (.c (.int .i64 (left))))] [] K := by
  refine acall_c Try.f56.results.toList mixed Try.func56 rfl rfl (by kernel_rfl) ?_
  intro Q hQ hQO
  simp only [go_sem]
  refine c_split (fun hb => ?_) (fun hb => ?_) <;> simp only [go_sem, hb]
  · (try simp only [go_sem]); repeat' (first | (with_reducible refine c_split (fun hb => ?_) (fun hb => ?_) <;> try simp only [go_sem, hb]) | (with_reducible refine w_split (fun hb => ?_) (fun hb => ?_) <;> try simp only [go_sem, hb]) | (with_reducible refine hQ _ _ ?_ <;> simp only [Try.f56, go_sem]))
    exact hk _ (by intro q; omega)
  have hw : wrap64 (left - (fs.length : Int)) = left - fs.length := by unfold wrap64; omega
  rw [hw] at hb
  have hb0 := of_decide_eq_false hb
  simp only [hw]
  refine for_at (fs.length) [0] (fun i f h => f 1 = (.one (.c (.int .i64 (left - (fs.length + roomTo fs i))))) ∧ f 5 = (.one (.c (.int .i64 (i)))) ∧ h = [] ∧ 0 ≤ left - (fs.length + roomTo fs i)) (GC.now ?_) ?_
  · simp only [go_sem, nc_0, true_and]
    simp [roomTo]; omega
  · rintro i f h J hi hA ⟨e1, e5, rfl, hP⟩ hJ
    simp only [go_sem] at hA
    simp only [go_sem, hA, e1, e5]
    refine c_split (fun hb => ?_) (fun hb => ?_)
    rotate_left
    · simp only [go_sem, hb, hA, e1, e5]
      obtain rfl := ge_len hb hi
      (try simp only [go_sem, hA, e1, e5]); repeat' (first | (with_reducible refine c_split (fun hb => ?_) (fun hb => ?_) <;> try simp only [go_sem, hb, hA, e1, e5]) | (with_reducible refine w_split (fun hb => ?_) (fun hb => ?_) <;> try simp only [go_sem, hb, hA, e1, e5]) | (with_reducible refine hQ _ _ ?_ <;> simp only [Try.f56, go_sem, hA, e1, e5]))
      exact hk _ (fun _ => rfl)
    have hi := lt_len hb
    have hw := wrap_nat i (by omega)
    have hil : (i : Int) < ((fs.length : Nat) : Int) := Int.ofNat_lt.2 hi
    have hg0 : (fs)[i]? = some ((fs)[i]) := List.getElem?_eq_getElem (by omega)
    simp only [go_sem, hb, hA, e1, e5, hg0]
    try simp only [go_sem, hA, e1, e5, hil, hg0]
    have hr0 : 0 ≤ roomTo fs i := roomTo_nonneg fs i
    (try simp only [go_sem, hA, e1, e5, hil, hg0]); repeat' (first | (with_reducible refine c_split (fun hb => ?_) (fun hb => ?_) <;> try simp only [go_sem, hb, hA, e1, e5, hil, hg0]) | (with_reducible refine w_split (fun hb => ?_) (fun hb => ?_) <;> try simp only [go_sem, hb, hA, e1, e5, hil, hg0]) | (refine call_c (c_szFile _ _ (hz _ (List.getElem_mem hi)).1 (hz _ (List.getElem_mem hi)).2 hP (by omega) _ (fun r hr => ?_)) <;> try simp only [go_sem, hA, e1, e5, hil, hg0]) | (with_reducible refine hQ _ _ ?_ <;> simp only [Try.f56, go_sem, hA, e1, e5, hil, hg0]))
    · exact hk _ (by intro q; omega)
    · rename_i r hr
      have hb1 := of_decide_eq_false hb
      have hr1 := hr (by omega)
      have hr2 : r = left - (fs.length + roomTo fs (i + 1)) := by rw [hr1, roomTo_succ fs i hi]; omega
      refine GC.now (hJ _ _ hi (by simp only [go_sem, hA, e1, e5]) ⟨?_, ?_, ?_, ?_⟩) <;> try simp only [go_sem, hA, e1, e5, hw, ← hr2]
      omega
theorem c_szDisk (d : Disk) (left : Int) (hz : SizedF d.files) (hn : d.files.length ≤ 1000000000000000) (h0 : 0 ≤ left) (h1 : left ≤ 1048576) (K : AV → AH → Prop) (hk : ∀ r, (0 ≤ r → r = left - (d.files.length + roomTo d.files d.files.length)) → K (.one (.c (.int .i64 (r)))) []) : ACalls Try.prog 16 [.agg (diskC d), (.one (.c (.int .i64 (left))))] [] K := by
  refine acall_c Try.f16.results.toList mixed Try.func16 rfl rfl (by kernel_rfl) ?_
  intro Q hQ hQO
  simp only [go_sem]
  (try simp only [go_sem]); repeat' (first | (with_reducible refine c_split (fun hb => ?_) (fun hb => ?_) <;> try simp only [go_sem, hb]) | (with_reducible refine w_split (fun hb => ?_) (fun hb => ?_) <;> try simp only [go_sem, hb]) | (refine call_c (c_szFileS _ _ hz hn h0 h1 _ (fun r hr => ?_)) <;> try simp only [go_sem]) | (with_reducible refine hQ _ _ ?_ <;> simp only [Try.f16, go_sem]))
  · exact hk _ (by intro q; omega)
  · exact hk _ hr
/-! ### Comparisons of like things -/
theorem c_eqFile (f : File) (K : AV → AH → Prop) (hk : K (.one (.c (.bool (true)))) []) : ACalls Try.prog 100 [.agg (fileC f), .agg (fileC f)] [] K := by
  refine acall_c Try.f100.results.toList mixed Try.func100 rfl rfl (by kernel_rfl) ?_
  intro Q hQ hQO
  simp only [go_sem, BEq.rfl]
  (try simp only [go_sem, BEq.rfl]); repeat' (first | (with_reducible refine c_split (fun hb => ?_) (fun hb => ?_) <;> try simp only [go_sem, hb, BEq.rfl]) | (with_reducible refine w_split (fun hb => ?_) (fun hb => ?_) <;> try simp only [go_sem, hb, BEq.rfl]) | (with_reducible refine hQ _ _ ?_ <;> simp only [Try.f100, go_sem, BEq.rfl]))
  exact hk
theorem c_eqFileS (fs : List File) (hn : fs.length ≤ 1000000000) (K : AV → AH → Prop) (hk : K (.one (.c (.bool (true)))) []) : ACalls Try.prog 64 [(.one (.im (fs.map fileC))), (.one (.im (fs.map fileC)))] [] K := by
  refine acall_c Try.f64.results.toList mixed Try.func64 rfl rfl (by kernel_rfl) ?_
  intro Q hQ hQO
  simp only [go_sem, BEq.rfl]
  refine for_at (fs.length) [0, 1] (fun i f h => f 5 = (.one (.c (.int .i64 (i)))) ∧ h = []) (GC.now ?_) ?_
  · simp only [go_sem, nc_0, true_and, BEq.rfl]
  · rintro i f h J hi hA ⟨e5, rfl⟩ hJ
    simp only [go_sem, BEq.rfl] at hA
    simp only [go_sem, hA, e5, BEq.rfl]
    refine c_split (fun hb => ?_) (fun hb => ?_)
    rotate_left
    · simp only [go_sem, hb, hA, e5, BEq.rfl]
      obtain rfl := ge_len hb hi
      (try simp only [go_sem, hA, e5, BEq.rfl]); repeat' (first | (with_reducible refine c_split (fun hb => ?_) (fun hb => ?_) <;> try simp only [go_sem, hb, hA, e5, BEq.rfl]) | (with_reducible refine w_split (fun hb => ?_) (fun hb => ?_) <;> try simp only [go_sem, hb, hA, e5, BEq.rfl]) | (with_reducible refine tw_split (fun hb => ?_) (fun hb => ?_) <;> try simp only [go_sem, hb, hA, e5, BEq.rfl]) | (with_reducible refine draw_at 0 17 (by with_unfolding_all rfl) [(0, true, true), (1, true, true), (2, true, true), (3, true, true), (4, true, false), (5, false, false), (6, false, false), (7, false, false), (8, false, true), (9, false, true)] (by kernel_rfl) ?_ <;> try simp only [go_sem, hA, e5, BEq.rfl]) | (with_reducible refine hQ _ _ ?_ <;> simp only [Try.f64, go_sem, hA, e5, BEq.rfl]))
      exact hk
    have hi := lt_len hb
    have hw := wrap_nat i (by omega)
    have hil : (i : Int) < ((fs.length : Nat) : Int) := Int.ofNat_lt.2 hi
    have hg0 : (fs)[i]? = some ((fs)[i]) := List.getElem?_eq_getElem (by omega)
    simp only [go_sem, hb, hA, e5, BEq.rfl, hg0]
    try simp only [go_sem, hA, e5, BEq.rfl, hil, hg0]
    (try simp only [go_sem, hA, e5, BEq.rfl, hil, hg0]); repeat' (first | (with_reducible refine c_split (fun hb => ?_) (fun hb => ?_) <;> try simp only [go_sem, hb, hA, e5, BEq.rfl, hil, hg0]) | (with_reducible refine w_split (fun hb => ?_) (fun hb => ?_) <;> try simp only [go_sem, hb, hA, e5, BEq.rfl, hil, hg0]) | (with_reducible refine tw_split (fun hb => ?_) (fun hb => ?_) <;> try simp only [go_sem, hb, hA, e5, BEq.rfl, hil, hg0]) | (with_reducible refine draw_at 0 17 (by with_unfolding_all rfl) [(0, true, true), (1, true, true), (2, true, true), (3, true, true), (4, true, false), (5, false, false), (6, false, false), (7, false, false), (8, false, true), (9, false, true)] (by kernel_rfl) ?_ <;> try simp only [go_sem, hA, e5, BEq.rfl, hil, hg0]) | (refine call_c (c_eqFile _ _ ?_) <;> try simp only [go_sem, hA, e5, BEq.rfl, hil, hg0]) | (fail))
    refine GC.now (hJ _ _ hi (by simp only [go_sem, hA, e5, BEq.rfl]) ⟨?_, ?_⟩) <;> try simp only [go_sem, hA, e5, BEq.rfl, hw]
theorem c_eqDisk (d : Disk) (hn : d.files.length ≤ 1000000000) (K : AV → AH → Prop) (hk : K (.one (.c (.bool (true)))) []) : ACalls Try.prog 21 [.agg (diskC d), .agg (diskC d)] [] K := by
  refine acall_c Try.f21.results.toList mixed Try.func21 rfl rfl (by kernel_rfl) ?_
  intro Q hQ hQO
  simp only [go_sem, BEq.rfl]
  (try simp only [go_sem, BEq.rfl]); repeat' (first | (with_reducible refine c_split (fun hb => ?_) (fun hb => ?_) <;> try simp only [go_sem, hb, BEq.rfl]) | (with_reducible refine w_split (fun hb => ?_) (fun hb => ?_) <;> try simp only [go_sem, hb, BEq.rfl]) | (refine call_c (c_eqFileS _ hn _ ?_) <;> try simp only [go_sem, BEq.rfl]) | (with_reducible refine hQ _ _ ?_ <;> simp only [Try.f21, go_sem, BEq.rfl]))
  exact hk
/-! ### Marks -/
def markF (k : Int) (i : Nat) : File := ⟨k + 3 * i, markS (k + 3 * i + 1), markS (k + 3 * i + 2)⟩
def marksF (k : Int) (n : Nat) : List File := (List.range n).map (markF k)
theorem marksF_len (k : Int) (n : Nat) : (marksF k n).length = n := by simp [marksF]
theorem marksF_tk (k : Int) (n : Nat) : ((marksF k n).map fileC).take n = (marksF k n).map fileC := List.take_of_length_le (by simp [marksF])
theorem c_markFileS (xs : List File) (k : Int) (l g : Nat) (cap : Option Nat) (h0 : AH) (hl : h0[l]? = some (.own g 76 3 cap (xs.map fileC))) (hn : xs.length ≤ 1000000000) (hk0 : 0 ≤ k) (hk1 : k ≤ 1000000000)
    (K : AV → AH → Prop) (hk : K (.one (.c (.int .i64 (k + 3 * xs.length)))) (h0.set l (.own g 76 3 cap ((marksF k xs.length).map fileC)))) : ACalls Try.prog 65 [.one (.sl l g 0 xs.length), (.one (.c (.int .i64 (k))))] h0 K := by
  have hall : ∀ o, (h0.set l o)[l]? = some o := set_at hl
  refine acall_m Try.f65.results.toList mixed Try.func65 rfl rfl (by kernel_rfl) ?_
  intro hwf Q hQ
  simp only [go_sem, hl]
  refine for_at (xs.length) [0] (fun i f h => f 1 = (.one (.c (.int .i64 (k + 3 * i)))) ∧ f 5 = (.one (.c (.int .i64 (i)))) ∧ h = h0.set l (.own g 76 3 cap ((fillR (markF k) xs i).map fileC))) (GC.now ?_) ?_
  · simp only [go_sem, nc_0, true_and, hall, hl]
    rw [fill_0, set_same hl]; simp
  · rintro i f h J hi hA ⟨e1, e5, rfl⟩ hJ
    simp only [go_sem, hall, hl] at hA
    simp only [go_sem, hA, e1, e5, hall, hl]
    refine c_split (fun hb => ?_) (fun hb => ?_)
    rotate_left
    · simp only [go_sem, hb, hA, e1, e5, hall, hl]
      obtain rfl := ge_len hb hi
      refine hQ (h0.set l (.own g 76 3 cap ((fillR (markF k) xs xs.length).map fileC))) _ _ ?_; refine GC.now (ret_m (by simp only [go_sem, Try.f65, hA, e1, e5, hall, hl]; exact _root_.id rfl) (by simp only [go_sem]) (by simp) (by first | exact hwf | exact wf_set hwf (by simp only [go_sem, hA, e1, e5, hall, hl]) | exact wf_set2 hwf (by simp only [go_sem, hA, e1, e5, hall, hl]) (by simp only [go_sem, hA, e1, e5, hall, hl]) | (simp only [go_sem]; done)) (by first | exact ⟨_, _root_.id rfl⟩ | exact ⟨[], (List.append_nil _).symm⟩) ?_) <;> simp only [go_sem, hA, e1, e5, hall, hl]
      rw [fill_all]
      exact hk
    have hi := lt_len hb
    have hw := wrap_nat i (by omega)
    have hil : (i : Int) < ((xs.length : Nat) : Int) := Int.ofNat_lt.2 hi
    have hg0 : (xs)[i]? = some ((xs)[i]) := List.getElem?_eq_getElem (by omega)
    simp only [go_sem, hb, hA, e1, e5, hall, hl, hg0]
    try simp only [go_sem, hA, e1, e5, hall, hl, hil, hg0]
    have hold := fill_get (markF k) xs i
    rw [hg0] at hold
    have hself : ∀ x, ((fillR (markF k) xs i).set i x)[i]? = some x := set_at hold
    have hset : (fillR (markF k) xs i).set i ⟨k + 3 * i, markS (k + 3 * i + 1), markS (k + 3 * i + 2)⟩ = fillR (markF k) xs (i + 1) := fill_set (markF k) xs i hi _ rfl
    have w1 : wrap64 (k + 3 * (i : Int) + 1) = k + 3 * i + 1 := by unfold wrap64; omega
    have w2 : wrap64 (k + 3 * (i : Int) + 1 + 1) = k + 3 * i + 2 := by unfold wrap64; omega
    have w3 : wrap64 (k + 3 * (i : Int) + 2 + 1) = k + 3 * ((i + 1 : Nat) : Int) := by unfold wrap64; omega
    (try simp only [go_sem, hA, e1, e5, hall, hl, hil, hg0, hold, hself, List.set_set, w1, w2, w3]); repeat' (first | (with_reducible refine c_split (fun hb => ?_) (fun hb => ?_) <;> try simp only [go_sem, hb, hA, e1, e5, hall, hl, hil, hg0, hold, hself, List.set_set, w1, w2, w3]) | (with_reducible refine w_split (fun hb => ?_) (fun hb => ?_) <;> try simp only [go_sem, hb, hA, e1, e5, hall, hl, hil, hg0, hold, hself, List.set_set, w1, w2, w3]) | (refine call_c (c_markText _ _ (by omega) ?_) <;> try simp only [go_sem, hA, e1, e5, hall, hl, hil, hg0, hold, hself, List.set_set, w1, w2, w3]) | (fail))
    refine GC.now (hJ _ _ hi (by simp only [go_sem, hA, e1, e5, hall, hl]) ⟨?_, ?_, ?_⟩) <;> try simp only [go_sem, hA, e1, e5, hall, hl, hw, hset]
theorem c_markDisk (room : Int) (xs : List File) (k : Int) (l g : Nat) (cap : Option Nat) (h0 : AH) (hl : h0[l]? = some (.own g 76 3 cap (xs.map fileC))) (hn : xs.length ≤ 1000000000) (hk0 : 0 ≤ k) (hk1 : k ≤ 1000000000)
    (K : AV → AH → Prop) (hk : K (.one (.c (.int .i64 (k + 3 * xs.length)))) (h0.set l (.own g 76 3 cap ((marksF k xs.length).map fileC)))) : ACalls Try.prog 22 [.agg [.c (.int .i64 (room)), .sl l g 0 xs.length], (.one (.c (.int .i64 (k))))] h0 K := by
  have hlt := (List.getElem?_eq_some_iff.1 hl).1
  refine acall_m Try.f22.results.toList mixed Try.func22 rfl rfl (by kernel_rfl) ?_
  intro hwf Q hQ
  simp only [go_sem, hl]
  refine call_h (c_markFileS xs k l g cap _ (h_old _ hl) hn hk0 hk1 _ ?_)
  simp only [go_sem, List.set_append_left _ _ hlt]
  refine hQ (h0.set l (.own g 76 3 cap ((marksF k xs.length).map fileC))) _ _ ?_; refine GC.now (ret_m (by simp only [go_sem, Try.f22]; exact _root_.id rfl) (by simp only [go_sem]) (by simp) (by first | exact hwf | exact wf_set hwf (by simp only [go_sem]) | exact wf_set2 hwf (by simp only [go_sem]) (by simp only [go_sem]) | (simp only [go_sem]; done)) (by first | exact ⟨_, _root_.id rfl⟩ | exact ⟨[], (List.append_nil _).symm⟩) ?_) <;> simp only [go_sem]
  exact hk
theorem c_heldFileS (n : Nat) (k : Int) (hn : n ≤ 1000000000) (hk0 : 0 ≤ k) (hk1 : k ≤ 1000000000) (K : AV → AH → Prop) (hk : K (.one (.c (.int .i64 (k + 3 * n)))) []) : ACalls Try.prog 71 [(.one (.im ((marksF k n).map fileC))), (.one (.c (.int .i64 (k))))] [] K := by
  have hm := marksF_len k n
  refine acall_c Try.f71.results.toList mixed Try.func71 rfl rfl (by kernel_rfl) ?_
  intro Q hQ hQO
  simp only [go_sem, BEq.rfl]
  refine for_at (n) [0] (fun i f h => f 1 = (.one (.c (.int .i64 (k + 3 * i)))) ∧ f 5 = (.one (.c (.int .i64 (i)))) ∧ h = []) (GC.now ?_) ?_
  · simp only [go_sem, nc_0, true_and, hm]
    simp
  · rintro i f h J hi hA ⟨e1, e5, rfl⟩ hJ
    simp only [go_sem, hm] at hA
    simp only [go_sem, hA, e1, e5, hm]
    refine c_split (fun hb => ?_) (fun hb => ?_)
    rotate_left
    · simp only [go_sem, hb, hA, e1, e5, hm]
      obtain rfl := ge_len hb hi
      (try simp only [go_sem, hA, e1, e5, hm]); repeat' (first | (with_reducible refine c_split (fun hb => ?_) (fun hb => ?_) <;> try simp only [go_sem, hb, hA, e1, e5, hm]) | (with_reducible refine w_split (fun hb => ?_) (fun hb => ?_) <;> try simp only [go_sem, hb, hA, e1, e5, hm]) | (with_reducible refine tw_split (fun hb => ?_) (fun hb => ?_) <;> try simp only [go_sem, hb, hA, e1, e5, hm]) | (with_reducible refine draw_at 0 21 (by with_unfolding_all rfl) [(0, true, true), (1, true, true), (2, true, true), (3, true, true), (4, true, true), (5, false, false), (6, false, false), (7, false, true)] (by kernel_rfl) ?_ <;> try simp only [go_sem, hA, e1, e5, hm]) | (with_reducible refine draw_at 0 31 (by with_unfolding_all rfl) [(0, true, true), (1, true, true), (2, true, true), (3, true, true), (4, true, true), (5, false, false), (6, false, false), (7, false, true)] (by kernel_rfl) ?_ <;> try simp only [go_sem, hA, e1, e5, hm]) | (with_reducible refine hQ _ _ ?_ <;> simp only [Try.f71, go_sem, hA, e1, e5, hm]))
      exact hk
    have hi := lt_len hb
    have hw := wrap_nat i (by omega)
    have hil : (i : Int) < ((n : Nat) : Int) := Int.ofNat_lt.2 hi
    simp only [go_sem, hb, hA, e1, e5, hm]
    try simp only [go_sem, hA, e1, e5, hm, hil]
    have hg : (marksF k n)[i]? = some (markF k i) := by simp [marksF, hi]
    have w1 : wrap64 (k + 3 * (i : Int) + 1) = k + 3 * i + 1 := by unfold wrap64; omega
    have w2 : wrap64 (k + 3 * (i : Int) + 1 + 1) = k + 3 * i + 2 := by unfold wrap64; omega
    have w3 : wrap64 (k + 3 * (i : Int) + 2 + 1) = k + 3 * ((i + 1 : Nat) : Int) := by unfold wrap64; omega
    (try simp only [go_sem, hA, e1, e5, hm, hil, hg, markF, BEq.rfl, w1, w2, w3]); repeat' (first | (with_reducible refine c_split (fun hb => ?_) (fun hb => ?_) <;> try simp only [go_sem, hb, hA, e1, e5, hm, hil, hg, markF, BEq.rfl, w1, w2, w3]) | (with_reducible refine w_split (fun hb => ?_) (fun hb => ?_) <;> try simp only [go_sem, hb, hA, e1, e5, hm, hil, hg, markF, BEq.rfl, w1, w2, w3]) | (with_reducible refine tw_split (fun hb => ?_) (fun hb => ?_) <;> try simp only [go_sem, hb, hA, e1, e5, hm, hil, hg, markF, BEq.rfl, w1, w2, w3]) | (with_reducible refine draw_at 0 21 (by with_unfolding_all rfl) [(0, true, true), (1, true, true), (2, true, true), (3, true, true), (4, true, true), (5, false, false), (6, false, false), (7, false, true)] (by kernel_rfl) ?_ <;> try simp only [go_sem, hA, e1, e5, hm, hil, hg, markF, BEq.rfl, w1, w2, w3]) | (with_reducible refine draw_at 0 31 (by with_unfolding_all rfl) [(0, true, true), (1, true, true), (2, true, true), (3, true, true), (4, true, true), (5, false, false), (6, false, false), (7, false, true)] (by kernel_rfl) ?_ <;> try simp only [go_sem, hA, e1, e5, hm, hil, hg, markF, BEq.rfl, w1, w2, w3]) | (refine call_c (c_markText _ _ (by omega) ?_) <;> try simp only [go_sem, hA, e1, e5, hm, hil, hg, markF, BEq.rfl, w1, w2, w3]) | (fail))

    refine GC.now (hJ _ _ hi (by simp only [go_sem, hA, e1, e5, hm]) ⟨?_, ?_, ?_⟩) <;> try simp only [go_sem, hA, e1, e5, hm, hw]
theorem c_heldDisk (room : Int) (n : Nat) (k : Int) (hn : n ≤ 1000000000) (hk0 : 0 ≤ k) (hk1 : k ≤ 1000000000) (K : AV → AH → Prop) (hk : K (.one (.c (.int .i64 (k + 3 * n)))) []) : ACalls Try.prog 28 [.agg [.c (.int .i64 (room)), .im ((marksF k n).map fileC)], (.one (.c (.int .i64 (k))))] [] K := by
  have h0 : decide (k + 3 * (n : Int) < 0) = false := decide_eq_false (by omega)
  refine acall_c Try.f28.results.toList mixed Try.func28 rfl rfl (by kernel_rfl) ?_
  intro Q hQ hQO
  simp only [go_sem]
  (try simp only [go_sem, h0]); repeat' (first | (with_reducible refine c_split (fun hb => ?_) (fun hb => ?_) <;> try simp only [go_sem, hb, h0]) | (with_reducible refine w_split (fun hb => ?_) (fun hb => ?_) <;> try simp only [go_sem, hb, h0]) | (refine call_c (c_heldFileS _ _ hn hk0 hk1 _ ?_) <;> try simp only [go_sem, h0]) | (with_reducible refine hQ _ _ ?_ <;> simp only [Try.f28, go_sem, h0]))
  exact hk
end Go.Proofs.Ytjfmfcdempkpdaa
