/- DrawC: a disk with segments and a row of names, drawn. Conditions: none. -/
import Derived.Test.YtaahlnjldenhpaaLG
import Derived.Test.YtaahlnjldenhpaaLT
import Derived.Test.YtaahlnjldenhpaaLDraw15
namespace Go.Proofs.Ytaahlnjldenhpaa
open Go.BL Go.RowKit
set_option linter.unusedVariables false
set_option linter.unusedSimpArgs false
set_option maxRecDepth 100000
attribute [local go_sem] fileC diskC fileC_len diskR
theorem c_l15DrawDisk (b : List UInt8) (i : Nat) (hh : Int) (hbl : b.length ≤ 1000000000000) (hi : i ≤ b.length) (h : AH) (l : Nat) (hl : h[l]? = some (curO b i hh)) (K : AV → AH → Prop) (hk : ∀ (i' : Nat) hh' (d : Disk), i' ≤ b.length → OkD d → K (.agg (diskC d)) (h.set l (curO b i' hh'))) : FCalls Try.prog 24 [.one (.pt l 0 0 0)] h [l] K :=
  frame1 (args := [.one (.pt 0 0 0 0)]) hl rfl (c0_l15DrawDisk b i hh hbl hi _ fun i' hh' x h1 h2 o' ext e => by cases e; exact (List.append_nil (h.set l (curO b i' hh'))).symm ▸ hk i' hh' x h1 h2)
theorem c0_l15DrawSeg (b : List UInt8) (i : Nat) (hh : Int) (hbl : b.length ≤ 1000000000000) (hi : i ≤ b.length) (K : AV → AH → Prop) (hk : ∀ (i' : Nat) hh' (v : Int), i' ≤ b.length → K (.one (.c (.int .i64 (v)))) [curO b i' hh']) : ACalls Try.prog 26 [.one (.pt 0 0 0 0)] [curO b i hh] K := by
  refine acall_h Try.f26.results.toList mixed Try.func26 rfl rfl (by kernel_rfl) ?_
  intro Q hQ hQN
  simp only [go_sem]
  (try simp only [go_sem]); repeat' (first | (with_reducible refine c_split (fun hb => ?_) (fun hb => ?_) <;> try simp only [go_sem, hb]) | (with_reducible refine w_split (fun hb => ?_) (fun hb => ?_) <;> try simp only [go_sem, hb]) | (fail))
  refine call_f _ (f_l1PickInt b i hh hbl hi [0, 0, 1, 18, 19, 2, 20, -1] (by decide) (by decide) _ 0 1 (some 8) rfl rfl _ fun i2 h2 v hi2 hx => ?_)
  (try simp only [go_sem]); repeat' (first | (with_reducible refine c_split (fun hb => ?_) (fun hb => ?_) <;> try simp only [go_sem, hb]) | (with_reducible refine w_split (fun hb => ?_) (fun hb => ?_) <;> try simp only [go_sem, hb]) | (fail))
  refine hQ [] _ _ (GC.now ?_) <;> simp only [Try.f26, go_sem, List.nodup_cons, List.nodup_nil, List.mem_cons, List.not_mem_nil, or_false, not_false_eq_true, List.idxOf?_cons, List.idxOf?_nil, Option.map_none, forall_eq, cur_lt]
  exact hk _ _ _ hi2
theorem c_l15DrawSeg (b : List UInt8) (i : Nat) (hh : Int) (hbl : b.length ≤ 1000000000000) (hi : i ≤ b.length) (h : AH) (l : Nat) (hl : h[l]? = some (curO b i hh)) (K : AV → AH → Prop) (hk : ∀ (i' : Nat) hh' (v : Int), i' ≤ b.length → K (.one (.c (.int .i64 (v)))) (h.set l (curO b i' hh'))) : FCalls Try.prog 26 [.one (.pt l 0 0 0)] h [l] K :=
  frame1 (args := [.one (.pt 0 0 0 0)]) hl rfl (c0_l15DrawSeg b i hh hbl hi _ fun i' hh' x h1 o' ext e => by cases e; exact (List.append_nil (h.set l (curO b i' hh'))).symm ▸ hk i' hh' x h1)
theorem clr_make (x n : Nat) (hx : (x : Int) < 2 ∨ x = 0) (hn : 20 + x = n) : wrap64 (20 + (x : Int)) = (n : Int) ∧ (0 : Int) ≤ (n : Int) ∧ (n : Int) ≤ 9223372036854775807 ∧ n * 1 ≤ 281474976710656 ∧ 8 * n ≤ 281474976710656 ∧ n ≤ maxLen ∧ n ≤ 100 := by
  have h1 : wrap64 (20 + (x : Int)) = (n : Int) := by rw [wrap_id _ (by omega) (by omega)]; omega
  exact ⟨h1, by omega, by omega, by omega, by omega, Nat.le_trans (show n ≤ 100 by omega) (by decide), by omega⟩
theorem c_DrawSegsClear (b : List UInt8) (hbl : b.length ≤ 1000000000000) (K : AV → AH → Prop) (hk : ∀ (d : Disk) (keep : List Int), OkD d → keep.length ≤ 100 → K (.tup [.agg (diskC d), (.one (.im (keep.map intC)))]) []) : ACalls Try.prog 6 [(.one (.im (b.map byteC)))] [] K := by
  refine acall_c Try.f6.results.toList mixed Try.func6 rfl rfl (by kernel_rfl) ?_
  intro Q hQ hQO
  simp only [go_sem]
  (try simp only [go_sem]); repeat' (first | (with_reducible refine c_split (fun hb => ?_) (fun hb => ?_) <;> try simp only [go_sem, hb]) | (with_reducible refine w_split (fun hb => ?_) (fun hb => ?_) <;> try simp only [go_sem, hb]) | (refine call_c (c_l1New b hbl _ fun h1 => ?_) <;> try simp only [go_sem]) | (fail))
  refine call_f _ (c_l15DrawDisk b 0 h1 hbl (Nat.zero_le _) _ 1 rfl _ fun i2 h2 d hi2 hd => ?_)
  (try simp only [go_sem]); repeat' (first | (with_reducible refine c_split (fun hb => ?_) (fun hb => ?_) <;> try simp only [go_sem, hb]) | (with_reducible refine w_split (fun hb => ?_) (fun hb => ?_) <;> try simp only [go_sem, hb]) | (fail))
  refine while_at (α := Nat × List Int × Nat × Int × Nat × Option Nat) (fun ⟨j, ks, i3, h3, g, cap⟩ => 10 - j) [2, 4, 5] (fun ⟨j, ks, i3, h3, g, cap⟩ f h => f 7 = (.one (.c (.int .i64 ((j : Int))))) ∧ f 6 = .one (.sl 3 g 0 ks.length) ∧ h = [.own 0 26 2 (some 1) [[.c (.int .i64 (0)), .nl]], curO b i3 h3, .own 0 26 2 (some 1) [diskC d], .own g 3 1 cap (ks.map intC)] ∧ ks.length = j ∧ j ≤ 4 ∧ i3 ≤ b.length) (0, [], i2, h2, 0, some 0) (GC.now ?_) ?_
  · simp only [go_sem, nc_0, true_and]
    exact hi2
  · rintro ⟨j, ks, i3, h3, g, cap⟩ f h J hA ⟨e7, e6, rfl, hP⟩ hJ
    simp only [go_sem] at hA
    try dsimp only at hJ
    simp only [go_sem, hA, e7, e6]
    obtain ⟨hj, hj4, hi3⟩ := hP
    (try simp only [go_sem, hA, e7, e6]); repeat' (first | (with_reducible refine c_split (fun hb => ?_) (fun hb => ?_) <;> try simp only [go_sem, hb, hA, e7, e6]) | (with_reducible refine w_split (fun hb => ?_) (fun hb => ?_) <;> try simp only [go_sem, hb, hA, e7, e6]) | (fail))
    refine call_f _ (c_l1Below b i3 h3 _ hbl hi3 _ 1 rfl _ fun i4 h4 x4 hi4 hx4 => ?_)
    (try simp only [go_sem, hA, e7, e6]); repeat' (first | (with_reducible refine c_split (fun hb => ?_) (fun hb => ?_) <;> try simp only [go_sem, hb, hA, e7, e6]) | (with_reducible refine w_split (fun hb => ?_) (fun hb => ?_) <;> try simp only [go_sem, hb, hA, e7, e6]) | (fail))
    · have hjx : j < x4 := Int.ofNat_lt.1 (of_decide_eq_true hb)
      have hj3 : j ≤ 3 := by omega
      have hdec : 10 - (j + 1) < 10 - j := by omega
      have hw := wrap_nat j (by omega)
      refine call_f _ (c_l15DrawSeg b i4 h4 hbl hi4 _ 1 rfl _ fun i5 h5 v hi5 => ?_)
      (try simp only [go_sem, hA, e7, e6]); repeat' (first | (with_reducible refine c_split (fun hb => ?_) (fun hb => ?_) <;> try simp only [go_sem, hb, hA, e7, e6]) | (with_reducible refine w_split (fun hb => ?_) (fun hb => ?_) <;> try simp only [go_sem, hb, hA, e7, e6]) | (fail))
      refine ap_end rfl (by simp) (by simp; omega) ?_
      (try simp only [go_sem, hA, e7, e6, hw]); repeat' (first | (with_reducible refine c_split (fun hb => ?_) (fun hb => ?_) <;> try simp only [go_sem, hb, hA, e7, e6, hw]) | (with_reducible refine w_split (fun hb => ?_) (fun hb => ?_) <;> try simp only [go_sem, hb, hA, e7, e6, hw]) | (fail))
      refine gc_trim 4 (by decide) (by simp only [go_sem]) (by simp only [go_sem, hw, cur_lt]) (hJ (j + 1, ks ++ [v], i5, h5, g + 1, none) _ _ (by exact hdec) (by simp only [go_sem, hA, e7, e6]) ⟨?_, ?_, ?_, ?_⟩) <;> try simp only [go_sem, hA, e7, e6, hw, cur_lt]
      exact ⟨hj, hj3, hi5⟩
    · refine call_f _ (c_l1Once b i4 h4 _ hbl hi4 _ 1 rfl _ fun i5 h5 v hi5 => ?_)
      cases v
      · have htk : List.take ks.length (List.map intC ks) = List.map intC ks := List.take_of_length_le (by simp)
        (try simp only [go_sem, hA, e7, e6, htk]); repeat' (first | (with_reducible refine c_split (fun hb => ?_) (fun hb => ?_) <;> try simp only [go_sem, hb, hA, e7, e6, htk]) | (with_reducible refine w_split (fun hb => ?_) (fun hb => ?_) <;> try simp only [go_sem, hb, hA, e7, e6, htk]) | (with_reducible refine hQ _ _ ?_ <;> simp only [Try.f6, go_sem, hA, e7, e6, htk]))
        exact hk d ks hd (Nat.le_trans (Nat.le_of_eq hj) (Nat.le_trans hj4 (by decide)))
      · (try simp only [go_sem, hA, e7, e6]); repeat' (first | (with_reducible refine c_split (fun hb => ?_) (fun hb => ?_) <;> try simp only [go_sem, hb, hA, e7, e6]) | (with_reducible refine w_split (fun hb => ?_) (fun hb => ?_) <;> try simp only [go_sem, hb, hA, e7, e6]) | (fail))
        refine call_f _ (c_l1Below b i5 h5 _ hbl hi5 _ 1 rfl _ fun i6 h6 x6 hi6 hx6 => ?_)
        obtain ⟨hw2, q4, q5, q6, q7, q8, q9⟩ := clr_make x6 (20 + x6) hx6 rfl
        generalize 20 + x6 = n at hw2 q4 q5 q6 q7 q8 q9
        clear hx6 hj hj4 hi3 hi4 hi5 hx4 hb
        (try simp only [go_sem, hA, e7, e6, hw2, srB_i, q4, q5, q6]); repeat' (first | (with_reducible refine c_split (fun hb => ?_) (fun hb => ?_) <;> try simp only [go_sem, hb, hA, e7, e6, hw2, srB_i, q4, q5, q6]) | (with_reducible refine w_split (fun hb => ?_) (fun hb => ?_) <;> try simp only [go_sem, hb, hA, e7, e6, hw2, srB_i, q4, q5, q6]) | (fail))
        refine ⟨q7, q8, ?_⟩
        have htk : List.take n (List.map intC (List.replicate n (0 : Int))) = List.map intC (List.replicate n (0 : Int)) := List.take_of_length_le (by simp)
        have hln : (List.replicate n (0 : Int)).length = n := by simp
        (try simp only [go_sem, hA, e7, e6, htk, hln]); repeat' (first | (with_reducible refine c_split (fun hb => ?_) (fun hb => ?_) <;> try simp only [go_sem, hb, hA, e7, e6, htk, hln]) | (with_reducible refine w_split (fun hb => ?_) (fun hb => ?_) <;> try simp only [go_sem, hb, hA, e7, e6, htk, hln]) | (with_reducible refine hQ _ _ ?_ <;> simp only [Try.f6, go_sem, hA, e7, e6, htk, hln]))
        exact hk d _ hd (by rw [hln]; exact q9)
end Go.Proofs.Ytaahlnjldenhpaa
