/- Segs: the segments from one on, as the program and as the specification tells them. Conditions: none. -/
import Derived.Test.YtaahlnjldenhpaaLG
import Derived.Test.YtaahlnjldenhpaaLT
import Derived.Test.YtaahlnjldenhpaaLFind
namespace Go.Proofs.Ytaahlnjldenhpaa
open Go.BL Go.RowKit
set_option linter.unusedVariables false
set_option linter.unusedSimpArgs false
set_option maxRecDepth 100000
attribute [local go_sem] fileC diskC fileC_len
theorem c_isSeg (n : Int) (K : AV → AH → Prop) (hk : K (.one (.c (.bool (decide (0 ≤ n ∧ n ≤ 19))))) []) : ACalls Try.prog 31 [(.one (.c (.int .i64 (n))))] [] K := by
  refine acall_c Try.f31.results.toList mixed Try.func31 rfl rfl (by kernel_rfl) ?_
  intro Q hQ hQO
  simp only [go_sem]
  (try simp only [go_sem]); repeat' (first | (with_reducible refine c_split (fun hb => ?_) (fun hb => ?_) <;> try simp only [go_sem, hb]) | (with_reducible refine w_split (fun hb => ?_) (fun hb => ?_) <;> try simp only [go_sem, hb]) | (refine call_c (c_in _ _ _ _ ?_) <;> try simp only [go_sem]) | (with_reducible refine hQ _ _ ?_ <;> simp only [Try.f31, go_sem]))
  exact hk
theorem c_l15Seg (n : Int) (K : AV → AH → Prop) (hk : K (.one (.c (.bool (decide (0 ≤ n ∧ n ≤ 19))))) []) : ACalls Try.prog 44 [(.one (.c (.int .i64 (n))))] [] K := by
  refine acall_c Try.f44.results.toList mixed Try.func44 rfl rfl (by kernel_rfl) ?_
  intro Q hQ hQO
  simp only [go_sem]
  (try simp only [go_sem]); repeat' (first | (with_reducible refine c_split (fun hb => ?_) (fun hb => ?_) <;> try simp only [go_sem, hb]) | (with_reducible refine w_split (fun hb => ?_) (fun hb => ?_) <;> try simp only [go_sem, hb]) | (refine call_c (c_l1In _ _ _ _ ?_) <;> try simp only [go_sem]) | (with_reducible refine hQ _ _ ?_ <;> simp only [Try.f44, go_sem]))
  exact hk
def after (n : Int) : Int := (wrap64 (n + 1)).tmod 20
theorem c_behind (n : Int) (K : AV → AH → Prop) (hk : K (.one (.c (.int .i64 (after n)))) []) : ACalls Try.prog 38 [(.one (.c (.int .i64 (n))))] [] K := by
  have h20 : (20 : Int) ≠ 0 := by omega
  refine acall_c Try.f38.results.toList mixed Try.func38 rfl rfl (by kernel_rfl) ?_
  intro Q hQ hQO
  simp only [go_sem, ne_eq, h20, not_false_eq_true, b_rem]
  (try simp only [go_sem]); repeat' (first | (with_reducible refine c_split (fun hb => ?_) (fun hb => ?_) <;> try simp only [go_sem, hb]) | (with_reducible refine w_split (fun hb => ?_) (fun hb => ?_) <;> try simp only [go_sem, hb]) | (with_reducible refine hQ _ _ ?_ <;> simp only [Try.f38, go_sem]))
  exact hk
theorem c_l15After (n : Int) (K : AV → AH → Prop) (hk : K (.one (.c (.int .i64 (after n)))) []) : ACalls Try.prog 55 [(.one (.c (.int .i64 (n))))] [] K := by
  have h20 : (20 : Int) ≠ 0 := by omega
  refine acall_c Try.f55.results.toList mixed Try.func55 rfl rfl (by kernel_rfl) ?_
  intro Q hQ hQO
  simp only [go_sem, ne_eq, h20, not_false_eq_true, b_rem]
  (try simp only [go_sem]); repeat' (first | (with_reducible refine c_split (fun hb => ?_) (fun hb => ?_) <;> try simp only [go_sem, hb]) | (with_reducible refine w_split (fun hb => ?_) (fun hb => ?_) <;> try simp only [go_sem, hb]) | (with_reducible refine hQ _ _ ?_ <;> simp only [Try.f55, go_sem]))
  exact hk
def intC (n : Int) : List CV := [.c (.int .i64 (n))]
theorem intC_cl (x : Int) : (intC x).all clB = true := by first | rfl | (cases x; rfl)
theorem intC_st (x : Int) : (intC x).all stB = true := by first | rfl | (cases x; rfl)
theorem intC_clE (xs : List (Int)) : clE (xs.map intC) = true := clE_map _ _ intC_cl
theorem intC_stL (xs : List (Int)) : stL (xs.map intC) = true := stL_map _ _ intC_st
theorem intC_ltE (n : Nat) (xs : List (Int)) : ltE n (xs.map intC) = true := lte_cl _ _ (intC_clE xs)
theorem intC_clz (xs : List (Int)) : (xs.map intC).map (List.map clz) = xs.map intC := clz_E _ (intC_clE xs)
theorem intC_shV (n : Nat) (xs : List (Int)) : (xs.map intC).map (List.map (shV n)) = xs.map intC := shV_E _ _ (intC_clE xs)
theorem intC_snoc (xs : List (Int)) (n : Int) : xs.map intC ++ [[.c (.int .i64 (n))]] = (xs ++ [(n : Int)]).map intC := by rw [List.map_append]; rfl
theorem intC_set (xs : List (Int)) (q : Nat) (n : Int) : (xs.map intC).set q [.c (.int .i64 (n))] = (xs.set q (n : Int)).map intC := by rw [List.map_set]; rfl
theorem intC_rep (q : Nat) (n : Int) : List.replicate q [.c (.int .i64 (n))] = (List.replicate q (n : Int)).map intC := map_rep _ _ _ _ rfl
theorem intC_tk (xs : List (Int)) : (xs.map intC).take xs.length = xs.map intC := List.take_of_length_le (by simp)
theorem intC_ks (xs : List (Int)) : ksB (1) (xs.map intC) = true := by simp [ksB, intC]
theorem intC_fr (xs : List (Int)) : freeE (xs.map intC) = true := fee_map _ _ (fun x => by first | rfl | (cases x; rfl))
attribute [go_sem] intC_cl intC_st intC_clE intC_stL intC_ltE intC_clz intC_shV intC_snoc intC_ks intC_tk intC_fr intC_set intC_rep
/-- The segments from 'seg' on, at most k of them. -/
def segsFrom (fs : List File) : Nat → Int → List Int
  | 0, _ => []
  | k + 1, seg => if 0 ≤ findG (fun f => f.name == seg) fs then seg :: segsFrom fs k (after seg) else []
def segsOf (d : Disk) (seg : Int) : List Int := if diskOk d = true ∧ 0 ≤ seg ∧ seg ≤ 19 then segsFrom d.files 20 seg else []
theorem segs_next {fs : List File} {seg cur : Int} {ns : List Int} (hl : ns.length < 20) (h : segsFrom fs 20 seg = ns ++ segsFrom fs (20 - ns.length) cur) (h0 : 0 ≤ findG (fun f => f.name == cur) fs) :
    (ns ++ [cur]).length ≤ 20 ∧ segsFrom fs 20 seg = (ns ++ [cur]) ++ segsFrom fs (20 - (ns ++ [cur]).length) (after cur) := by
  have hl' : (ns ++ [cur]).length = ns.length + 1 := by simp
  refine ⟨by omega, ?_⟩
  rw [hl', h, show 20 - ns.length = (20 - (ns.length + 1)) + 1 by omega, segsFrom, if_pos h0]
  simp
theorem segs_stop {fs : List File} {seg cur : Int} {ns : List Int} (h : segsFrom fs 20 seg = ns ++ segsFrom fs (20 - ns.length) cur) (h0 : ¬ 0 ≤ findG (fun f => f.name == cur) fs) : segsFrom fs 20 seg = ns := by
  rw [h]
  cases 20 - ns.length with
  | zero => rw [segsFrom, List.append_nil]
  | succ n => rw [segsFrom, if_neg h0, List.append_nil]
theorem segs_full {fs : List File} {seg cur : Int} {ns : List Int} (h : segsFrom fs 20 seg = ns ++ segsFrom fs (20 - ns.length) cur) (h0 : ¬ (ns.length : Int) < 20) : segsFrom fs 20 seg = ns := by
  rw [h, show 20 - ns.length = 0 by omega, segsFrom, List.append_nil]
theorem c_impl_SegsFrom (d : Disk) (seg : Int) (hn : d.files.length ≤ 1000000000) (K : AV → AH → Prop) (hk : K (.one (.im ((segsOf d seg).map intC))) []) : ACalls Try.prog 13 [.agg (diskC d), (.one (.c (.int .i64 (seg))))] [] K := by
  refine acall_c Try.f13.results.toList mixed Try.func13 rfl rfl (by kernel_rfl) ?_
  intro Q hQ hQO
  simp only [go_sem]
  (try simp only [go_sem]); repeat' (first | (with_reducible refine c_split (fun hb => ?_) (fun hb => ?_) <;> try simp only [go_sem, hb]) | (with_reducible refine w_split (fun hb => ?_) (fun hb => ?_) <;> try simp only [go_sem, hb]) | (refine call_c (c_isSeg _ _ ?_) <;> try simp only [go_sem]) | (refine call_c (c_impl_DiskOk d hn _ ?_) <;> try simp only [go_sem]) | (with_reducible refine hQ _ _ ?_ <;> simp only [Try.f13, go_sem]))
  · rw [segsOf, if_neg (fun q => by simp [q.2] at hb)] at hk; exact hk
  · rw [segsOf, if_neg (fun q => by simp [q.1] at hb)] at hk; exact hk
  rename_i hb1
  have hof : segsOf d seg = segsFrom d.files 20 seg := by rw [segsOf, if_pos (by constructor <;> simp_all)]
  rw [hof] at hk
  refine while_at (α := List Int × Int × Nat × Option Nat) (fun ⟨ns, cur, g, cap⟩ => 20 - ns.length) [2] (fun ⟨ns, cur, g, cap⟩ f h => f 6 = (.one (.c (.int .i64 (cur)))) ∧ f 5 = .one (.sl 1 g 0 ns.length) ∧ h = [.own 0 26 2 (some 1) [diskC d], .own g 3 1 cap (ns.map intC)] ∧ ns.length ≤ 20 ∧ segsFrom d.files 20 seg = ns ++ segsFrom d.files (20 - ns.length) cur) ([], seg, 0, some 0) (GC.now ?_) ?_
  · simp only [go_sem, nc_0, true_and]
  · rintro ⟨ns, cur, g, cap⟩ f h J hA ⟨e6, e5, rfl, hP⟩ hJ
    simp only [go_sem] at hA
    try dsimp only at hJ
    simp only [go_sem, hA, e6, e5]
    (try simp only [go_sem, hA, e6, e5]); repeat' (first | (with_reducible refine c_split (fun hb => ?_) (fun hb => ?_) <;> try simp only [go_sem, hb, hA, e6, e5]) | (with_reducible refine w_split (fun hb => ?_) (fun hb => ?_) <;> try simp only [go_sem, hb, hA, e6, e5]) | (refine call_c (c_fileAt d _ hn _ ?_) <;> try simp only [go_sem, hA, e6, e5]) | (fail))
    · rename_i hx
      have hlt : ns.length < 20 := by have := of_decide_eq_true hx; omega
      have h0 : ns.length = (ns.map intC).length := by simp
      refine ap_end rfl h0 (by simp; omega) ?_
      simp only [go_sem, hA, e6, e5]
      (try simp only [go_sem, hA, e6, e5]); repeat' (first | (with_reducible refine c_split (fun hb => ?_) (fun hb => ?_) <;> try simp only [go_sem, hb, hA, e6, e5]) | (with_reducible refine w_split (fun hb => ?_) (fun hb => ?_) <;> try simp only [go_sem, hb, hA, e6, e5]) | (refine call_c (c_behind _ _ ?_) <;> try simp only [go_sem, hA, e6, e5]) | (fail))
      refine gc_trim 2 (by decide) (by simp only [go_sem]) (by simp only [go_sem]) (hJ (ns ++ [cur], after cur, g + 1, none) _ _ (by first | omega | (simp; omega)) (by simp only [go_sem, hA, e6, e5]) ⟨?_, ?_, ?_, ?_⟩) <;> try simp only [go_sem, hA, e6, e5]
      · simpa using segs_next hlt hP.2 (of_decide_eq_true hb)
    · rename_i hx
      rw [segs_stop hP.2 (of_decide_eq_false hb)] at hk
      (try simp only [go_sem, hA, e6, e5]); repeat' (first | (with_reducible refine c_split (fun hb => ?_) (fun hb => ?_) <;> try simp only [go_sem, hb, hA, e6, e5]) | (with_reducible refine w_split (fun hb => ?_) (fun hb => ?_) <;> try simp only [go_sem, hb, hA, e6, e5]) | (with_reducible refine hQ _ _ ?_ <;> simp only [Try.f13, go_sem, hA, e6, e5]))
      exact hk
    · rw [segs_full hP.2 (of_decide_eq_false hb)] at hk
      (try simp only [go_sem, hA, e6, e5]); repeat' (first | (with_reducible refine c_split (fun hb => ?_) (fun hb => ?_) <;> try simp only [go_sem, hb, hA, e6, e5]) | (with_reducible refine w_split (fun hb => ?_) (fun hb => ?_) <;> try simp only [go_sem, hb, hA, e6, e5]) | (with_reducible refine hQ _ _ ?_ <;> simp only [Try.f13, go_sem, hA, e6, e5]))
      exact hk
end Go.Proofs.Ytaahlnjldenhpaa
