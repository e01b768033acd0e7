/- Rows: rows of whole numbers and of texts, as the laws' own functions handle them. Conditions: none. -/
import Derived.Test.YtedkpjaojdkpcaaLG
import Derived.Test.YtedkpjaojdkpcaaLT
import Derived.Test.YtedkpjaojdkpcaaLMark
namespace Go.Proofs.Ytedkpjaojdkpcaa
open Go.BL Go.RowKit
set_option linter.unusedVariables false
set_option linter.unusedSimpArgs false
set_option maxRecDepth 100000
attribute [local go_sem] intC
def strC (s : ByteArray) : List CV := [.c (.string (s))]
attribute [local go_sem] strC
theorem strC_cl (x : ByteArray) : (strC x).all clB = true := by first | rfl | (cases x; rfl)
theorem strC_st (x : ByteArray) : (strC x).all stB = true := by first | rfl | (cases x; rfl)
theorem strC_clE (xs : List (ByteArray)) : clE (xs.map strC) = true := clE_map _ _ strC_cl
theorem strC_stL (xs : List (ByteArray)) : stL (xs.map strC) = true := stL_map _ _ strC_st
theorem strC_ltE (n : Nat) (xs : List (ByteArray)) : ltE n (xs.map strC) = true := lte_cl _ _ (strC_clE xs)
theorem strC_clz (xs : List (ByteArray)) : (xs.map strC).map (List.map clz) = xs.map strC := clz_E _ (strC_clE xs)
theorem strC_shV (n : Nat) (xs : List (ByteArray)) : (xs.map strC).map (List.map (shV n)) = xs.map strC := shV_E _ _ (strC_clE xs)
theorem strC_snoc (xs : List (ByteArray)) (s : ByteArray) : xs.map strC ++ [[.c (.string (s))]] = (xs ++ [(s : ByteArray)]).map strC := by rw [List.map_append]; rfl
theorem strC_set (xs : List (ByteArray)) (q : Nat) (s : ByteArray) : (xs.map strC).set q [.c (.string (s))] = (xs.set q (s : ByteArray)).map strC := by rw [List.map_set]; rfl
theorem strC_rep (q : Nat) (s : ByteArray) : List.replicate q [.c (.string (s))] = (List.replicate q (s : ByteArray)).map strC := map_rep _ _ _ _ rfl
theorem strC_tk (xs : List (ByteArray)) : (xs.map strC).take xs.length = xs.map strC := List.take_of_length_le (by simp)
theorem strC_ks (xs : List (ByteArray)) : ksB (1) (xs.map strC) = true := by simp [ksB, strC]
theorem strC_fr (xs : List (ByteArray)) : freeE (xs.map strC) = true := fee_map _ _ (fun x => by first | rfl | (cases x; rfl))
attribute [go_sem] strC_cl strC_st strC_clE strC_stL strC_ltE strC_clz strC_shV strC_snoc strC_ks strC_tk strC_fr strC_set strC_rep
def markIntS (k : Int) (i : Nat) : Int := k + i
theorem c_eqIntS (xs : List Int) (hn : xs.length ≤ 1000000000) (K : AV → AH → Prop) (hk : K (.one (.c (.bool (true)))) []) : ACalls Try.prog 16 [(.one (.im (xs.map intC))), (.one (.im (xs.map intC)))] [] K := by
  refine acall_c Try.f16.results.toList mixed Try.func16 rfl rfl (by kernel_rfl) ?_
  intro Q hQ hQO
  simp only [go_sem, BEq.rfl]
  refine for_at (xs.length) [0, 1] (fun i f h => f 5 = (.one (.c (.int .i64 (i)))) ∧ h = []) (GC.now ?_) ?_
  · simp only [go_sem, nc_0, true_and, BEq.rfl]
  · rintro i f h J hi hA ⟨e5, rfl⟩ hJ
    simp only [go_sem, BEq.rfl] at hA
    simp only [go_sem, hA, e5, BEq.rfl]
    refine c_split (fun hb => ?_) (fun hb => ?_)
    rotate_left
    · simp only [go_sem, hb, hA, e5, BEq.rfl]
      obtain rfl := ge_len hb hi
      (try simp only [go_sem, hA, e5, BEq.rfl]); repeat' (first | (with_reducible refine c_split (fun hb => ?_) (fun hb => ?_) <;> try simp only [go_sem, hb, hA, e5, BEq.rfl]) | (with_reducible refine w_split (fun hb => ?_) (fun hb => ?_) <;> try simp only [go_sem, hb, hA, e5, BEq.rfl]) | (with_reducible refine tw_split (fun hb => ?_) (fun hb => ?_) <;> try simp only [go_sem, hb, hA, e5, BEq.rfl]) | (with_reducible refine draw_at 0 17 (by with_unfolding_all rfl) [(0, true, true), (1, true, true), (2, true, true), (3, true, true), (4, true, false), (5, false, false), (6, false, false), (7, false, false), (8, false, true)] (by kernel_rfl) ?_ <;> try simp only [go_sem, hA, e5, BEq.rfl]) | (with_reducible refine hQ _ _ ?_ <;> simp only [Try.f16, go_sem, hA, e5, BEq.rfl]))
      exact hk
    have hi := lt_len hb
    have hw := wrap_nat i (by omega)
    have hil : (i : Int) < ((xs.length : Nat) : Int) := Int.ofNat_lt.2 hi
    have hg0 : (xs)[i]? = some ((xs)[i]) := List.getElem?_eq_getElem (by omega)
    simp only [go_sem, hb, hA, e5, BEq.rfl, hg0]
    try simp only [go_sem, hA, e5, BEq.rfl, hil, hg0]
    (try simp only [go_sem, hA, e5, BEq.rfl, hil, hg0]); repeat' (first | (with_reducible refine c_split (fun hb => ?_) (fun hb => ?_) <;> try simp only [go_sem, hb, hA, e5, BEq.rfl, hil, hg0]) | (with_reducible refine w_split (fun hb => ?_) (fun hb => ?_) <;> try simp only [go_sem, hb, hA, e5, BEq.rfl, hil, hg0]) | (with_reducible refine tw_split (fun hb => ?_) (fun hb => ?_) <;> try simp only [go_sem, hb, hA, e5, BEq.rfl, hil, hg0]) | (with_reducible refine draw_at 0 17 (by with_unfolding_all rfl) [(0, true, true), (1, true, true), (2, true, true), (3, true, true), (4, true, false), (5, false, false), (6, false, false), (7, false, false), (8, false, true)] (by kernel_rfl) ?_ <;> try simp only [go_sem, hA, e5, BEq.rfl, hil, hg0]) | (fail))
    refine GC.now (hJ _ _ hi (by simp only [go_sem, hA, e5, BEq.rfl]) ⟨?_, ?_⟩) <;> try simp only [go_sem, hA, e5, BEq.rfl, hw]
theorem c_markIntS (xs : List Int) (k : Int) (l g : Nat) (cap : Option Nat) (h0 : AH) (hl : h0[l]? = some (.own g 3 1 cap (xs.map intC))) (hn : xs.length ≤ 1000000000) (hk0 : 0 ≤ k) (hk1 : k ≤ 1000000000)
    (K : AV → AH → Prop) (hk : K (.one (.c (.int .i64 (k + xs.length)))) (h0.set l (.own g 3 1 cap (((List.range xs.length).map (markIntS k)).map intC)))) : ACalls Try.prog 18 [.one (.sl l g 0 xs.length), (.one (.c (.int .i64 (k))))] h0 K := by
  have hall : ∀ o, (h0.set l o)[l]? = some o := set_at hl
  refine acall_m Try.f18.results.toList mixed Try.func18 rfl rfl (by kernel_rfl) ?_
  intro hwf Q hQ
  simp only [go_sem, hl]
  refine for_at (xs.length) [0] (fun i f h => f 1 = (.one (.c (.int .i64 (k + i)))) ∧ f 5 = (.one (.c (.int .i64 (i)))) ∧ h = h0.set l (.own g 3 1 cap ((fillR (markIntS k) xs i).map intC))) (GC.now ?_) ?_
  · simp only [go_sem, nc_0, true_and, hall, hl]
    rw [fill_0, set_same hl]; simp
  · rintro i f h J hi hA ⟨e1, e5, rfl⟩ hJ
    simp only [go_sem, hall, hl] at hA
    simp only [go_sem, hA, e1, e5, hall, hl]
    refine c_split (fun hb => ?_) (fun hb => ?_)
    rotate_left
    · simp only [go_sem, hb, hA, e1, e5, hall, hl]
      obtain rfl := ge_len hb hi
      refine hQ (h0.set l (.own g 3 1 cap ((fillR (markIntS k) xs xs.length).map intC))) _ _ ?_; refine GC.now (ret_m (by simp only [go_sem, Try.f18, hA, e1, e5, hall, hl]; exact _root_.id rfl) (by simp only [go_sem]) (by simp) (by first | exact hwf | exact wf_set hwf (by simp only [go_sem, hA, e1, e5, hall, hl]) | exact wf_set2 hwf (by simp only [go_sem, hA, e1, e5, hall, hl]) (by simp only [go_sem, hA, e1, e5, hall, hl]) | (simp only [go_sem]; done)) (by first | exact ⟨_, _root_.id rfl⟩ | exact ⟨[], (List.append_nil _).symm⟩) ?_) <;> simp only [go_sem, hA, e1, e5, hall, hl]
      rw [fill_all]
      exact hk
    have hi := lt_len hb
    have hw := wrap_nat i (by omega)
    have hil : (i : Int) < ((xs.length : Nat) : Int) := Int.ofNat_lt.2 hi
    have hg0 : (xs)[i]? = some ((xs)[i]) := List.getElem?_eq_getElem (by omega)
    simp only [go_sem, hb, hA, e1, e5, hall, hl, hg0]
    try simp only [go_sem, hA, e1, e5, hall, hl, hil, hg0]
    have hold := fill_get (markIntS k) xs i
    rw [hg0] at hold
    have hset : (fillR (markIntS k) xs i).set i (k + i) = fillR (markIntS k) xs (i + 1) := fill_set (markIntS k) xs i hi _ rfl
    have w1 : wrap64 (k + (i : Int) + 1) = k + ((i + 1 : Nat) : Int) := by unfold wrap64; omega
    (try simp only [go_sem, hA, e1, e5, hall, hl, hil, hg0, hold, w1]); repeat' (first | (with_reducible refine c_split (fun hb => ?_) (fun hb => ?_) <;> try simp only [go_sem, hb, hA, e1, e5, hall, hl, hil, hg0, hold, w1]) | (with_reducible refine w_split (fun hb => ?_) (fun hb => ?_) <;> try simp only [go_sem, hb, hA, e1, e5, hall, hl, hil, hg0, hold, w1]) | (fail))
    refine GC.now (hJ _ _ hi (by simp only [go_sem, hA, e1, e5, hall, hl]) ⟨?_, ?_, ?_⟩) <;> try simp only [go_sem, hA, e1, e5, hall, hl, hw, hset]
theorem c_heldIntS (n : Nat) (k : Int) (hn : n ≤ 1000000000) (hk0 : 0 ≤ k) (hk1 : k ≤ 1000000000) (K : AV → AH → Prop) (hk : K (.one (.c (.int .i64 (k + n)))) []) : ACalls Try.prog 19 [(.one (.im (((List.range n).map (markIntS k)).map intC))), (.one (.c (.int .i64 (k))))] [] K := by
  have hm : ((List.range n).map (markIntS k)).length = n := by simp
  generalize hms : (List.range n).map (markIntS k) = ms at hm ⊢
  refine acall_c Try.f19.results.toList mixed Try.func19 rfl rfl (by kernel_rfl) ?_
  intro Q hQ hQO
  simp only [go_sem, BEq.rfl]
  refine for_at (n) [0] (fun i f h => f 1 = (.one (.c (.int .i64 (k + i)))) ∧ f 5 = (.one (.c (.int .i64 (i)))) ∧ h = []) (GC.now ?_) ?_
  · simp only [go_sem, nc_0, true_and, hm]
    simp
  · rintro i f h J hi hA ⟨e1, e5, rfl⟩ hJ
    simp only [go_sem, hm] at hA
    simp only [go_sem, hA, e1, e5, hm]
    refine c_split (fun hb => ?_) (fun hb => ?_)
    rotate_left
    · simp only [go_sem, hb, hA, e1, e5, hm]
      obtain rfl := ge_len hb hi
      (try simp only [go_sem, hA, e1, e5, hm]); repeat' (first | (with_reducible refine c_split (fun hb => ?_) (fun hb => ?_) <;> try simp only [go_sem, hb, hA, e1, e5, hm]) | (with_reducible refine w_split (fun hb => ?_) (fun hb => ?_) <;> try simp only [go_sem, hb, hA, e1, e5, hm]) | (with_reducible refine hQ _ _ ?_ <;> simp only [Try.f19, go_sem, hA, e1, e5, hm]))
      exact hk
    have hi := lt_len hb
    have hw := wrap_nat i (by omega)
    have hil : (i : Int) < ((n : Nat) : Int) := Int.ofNat_lt.2 hi
    simp only [go_sem, hb, hA, e1, e5, hm]
    try simp only [go_sem, hA, e1, e5, hm, hil]
    have hg : ms[i]? = some (markIntS k i) := by rw [← hms]; simp [hi]
    have w1 : wrap64 (k + (i : Int) + 1) = k + ((i + 1 : Nat) : Int) := by unfold wrap64; omega
    (try simp only [go_sem, hA, e1, e5, hm, hil, hg, markIntS, BEq.rfl, w1]); repeat' (first | (with_reducible refine c_split (fun hb => ?_) (fun hb => ?_) <;> try simp only [go_sem, hb, hA, e1, e5, hm, hil, hg, markIntS, BEq.rfl, w1]) | (with_reducible refine w_split (fun hb => ?_) (fun hb => ?_) <;> try simp only [go_sem, hb, hA, e1, e5, hm, hil, hg, markIntS, BEq.rfl, w1]) | (fail))
    refine GC.now (hJ _ _ hi (by simp only [go_sem, hA, e1, e5, hm]) ⟨?_, ?_, ?_⟩) <;> try simp only [go_sem, hA, e1, e5, hm, hw]
def markStringS (k : Int) (i : Nat) : ByteArray := markS (k + i)
end Go.Proofs.Ytedkpjaojdkpcaa
