/- Segs: the segments from one on, as the program and as the specification tells them. Conditions: none. -/
import Derived.Test.YtedkpjaojdkpcaaGreatLG
import Derived.Test.YtedkpjaojdkpcaaGreatLT
import Derived.Test.YtedkpjaojdkpcaaGreatLFind
namespace Go.Proofs.YtedkpjaojdkpcaaGreat
open Go.BL Go.RowKit
set_option linter.unusedVariables false
set_option linter.unusedSimpArgs false
set_option maxRecDepth 100000
attribute [local go_sem] fileC diskC fileC_len
theorem c_isSeg (n : Int) (K : AV → AH → Prop) (hk : K (.one (.c (.bool (decide (0 ≤ n ∧ n ≤ 19))))) []) : ACalls Tryz.prog 22 [(.one (.c (.int .i64 (n))))] [] K := by
  refine acall_c Tryz.f22.results.toList mixed Tryz.func22 rfl rfl (by kernel_rfl) ?_
  intro Q hQ hQO
  simp only [go_sem]
  (try simp only [go_sem]); repeat' (first | (with_reducible refine c_split (fun hb => ?_) (fun hb => ?_) <;> try simp only [go_sem, hb]) | (with_reducible refine w_split (fun hb => ?_) (fun hb => ?_) <;> try simp only [go_sem, hb]) | (refine call_c (c_in _ _ _ _ ?_) <;> try simp only [go_sem]) | (with_reducible refine hQ _ _ ?_ <;> simp only [Tryz.f22, go_sem]))
  exact hk
theorem c_l15Seg (n : Int) (K : AV → AH → Prop) (hk : K (.one (.c (.bool (decide (0 ≤ n ∧ n ≤ 19))))) []) : ACalls Tryz.prog 17 [(.one (.c (.int .i64 (n))))] [] K := by
  refine acall_c Tryz.f17.results.toList mixed Tryz.func17 rfl rfl (by kernel_rfl) ?_
  intro Q hQ hQO
  simp only [go_sem]
  (try simp only [go_sem]); repeat' (first | (with_reducible refine c_split (fun hb => ?_) (fun hb => ?_) <;> try simp only [go_sem, hb]) | (with_reducible refine w_split (fun hb => ?_) (fun hb => ?_) <;> try simp only [go_sem, hb]) | (refine call_c (c_l1In _ _ _ _ ?_) <;> try simp only [go_sem]) | (with_reducible refine hQ _ _ ?_ <;> simp only [Tryz.f17, go_sem]))
  exact hk
def after (n : Int) : Int := (wrap64 (n + 1)).tmod 20
def intC (n : Int) : List CV := [.c (.int .i64 (n))]
theorem intC_cl (x : Int) : (intC x).all clB = true := by first | rfl | (cases x; rfl)
theorem intC_st (x : Int) : (intC x).all stB = true := by first | rfl | (cases x; rfl)
theorem intC_clE (xs : List (Int)) : clE (xs.map intC) = true := clE_map _ _ intC_cl
theorem intC_stL (xs : List (Int)) : stL (xs.map intC) = true := stL_map _ _ intC_st
theorem intC_ltE (n : Nat) (xs : List (Int)) : ltE n (xs.map intC) = true := lte_cl _ _ (intC_clE xs)
theorem intC_clz (xs : List (Int)) : (xs.map intC).map (List.map clz) = xs.map intC := clz_E _ (intC_clE xs)
theorem intC_shV (n : Nat) (xs : List (Int)) : (xs.map intC).map (List.map (shV n)) = xs.map intC := shV_E _ _ (intC_clE xs)
theorem intC_snoc (xs : List (Int)) (n : Int) : xs.map intC ++ [[.c (.int .i64 (n))]] = (xs ++ [(n : Int)]).map intC := by rw [List.map_append]; rfl
theorem intC_set (xs : List (Int)) (q : Nat) (n : Int) : (xs.map intC).set q [.c (.int .i64 (n))] = (xs.set q (n : Int)).map intC := by rw [List.map_set]; rfl
theorem intC_rep (q : Nat) (n : Int) : List.replicate q [.c (.int .i64 (n))] = (List.replicate q (n : Int)).map intC := map_rep _ _ _ _ rfl
theorem intC_tk (xs : List (Int)) : (xs.map intC).take xs.length = xs.map intC := List.take_of_length_le (by simp)
theorem intC_ks (xs : List (Int)) : ksB (1) (xs.map intC) = true := by simp [ksB, intC]
theorem intC_fr (xs : List (Int)) : freeE (xs.map intC) = true := fee_map _ _ (fun x => by first | rfl | (cases x; rfl))
attribute [go_sem] intC_cl intC_st intC_clE intC_stL intC_ltE intC_clz intC_shV intC_snoc intC_ks intC_tk intC_fr intC_set intC_rep
/-- The segments from 'seg' on, at most k of them. -/
def segsFrom (fs : List File) : Nat → Int → List Int
  | 0, _ => []
  | k + 1, seg => if 0 ≤ findG (fun f => f.name == seg) fs then seg :: segsFrom fs k (after seg) else []
def segsOf (d : Disk) (seg : Int) : List Int := if diskOk d = true ∧ 0 ≤ seg ∧ seg ≤ 19 then segsFrom d.files 20 seg else []
theorem segs_next {fs : List File} {seg cur : Int} {ns : List Int} (hl : ns.length < 20) (h : segsFrom fs 20 seg = ns ++ segsFrom fs (20 - ns.length) cur) (h0 : 0 ≤ findG (fun f => f.name == cur) fs) :
    (ns ++ [cur]).length ≤ 20 ∧ segsFrom fs 20 seg = (ns ++ [cur]) ++ segsFrom fs (20 - (ns ++ [cur]).length) (after cur) := by
  have hl' : (ns ++ [cur]).length = ns.length + 1 := by simp
  refine ⟨by omega, ?_⟩
  rw [hl', h, show 20 - ns.length = (20 - (ns.length + 1)) + 1 by omega, segsFrom, if_pos h0]
  simp
theorem segs_stop {fs : List File} {seg cur : Int} {ns : List Int} (h : segsFrom fs 20 seg = ns ++ segsFrom fs (20 - ns.length) cur) (h0 : ¬ 0 ≤ findG (fun f => f.name == cur) fs) : segsFrom fs 20 seg = ns := by
  rw [h]
  cases 20 - ns.length with
  | zero => rw [segsFrom, List.append_nil]
  | succ n => rw [segsFrom, if_neg h0, List.append_nil]
theorem segs_full {fs : List File} {seg cur : Int} {ns : List Int} (h : segsFrom fs 20 seg = ns ++ segsFrom fs (20 - ns.length) cur) (h0 : ¬ (ns.length : Int) < 20) : segsFrom fs 20 seg = ns := by
  rw [h, show 20 - ns.length = 0 by omega, segsFrom, List.append_nil]
end Go.Proofs.YtedkpjaojdkpcaaGreat
