/- Rows: rows of whole numbers and of texts, as the laws' own functions handle them. Conditions: none. -/
import Derived.Test.YtaahlnjldenhpaaDoorLG
import Derived.Test.YtaahlnjldenhpaaDoorLT
import Derived.Test.YtaahlnjldenhpaaDoorLMark
namespace Go.Proofs.YtaahlnjldenhpaaDoor
open Go.BL Go.RowKit
set_option linter.unusedVariables false
set_option linter.unusedSimpArgs false
set_option maxRecDepth 100000
attribute [local go_sem] intC
def strC (s : ByteArray) : List CV := [.c (.string (s))]
attribute [local go_sem] strC
theorem strC_cl (x : ByteArray) : (strC x).all clB = true := by first | rfl | (cases x; rfl)
theorem strC_st (x : ByteArray) : (strC x).all stB = true := by first | rfl | (cases x; rfl)
theorem strC_clE (xs : List (ByteArray)) : clE (xs.map strC) = true := clE_map _ _ strC_cl
theorem strC_stL (xs : List (ByteArray)) : stL (xs.map strC) = true := stL_map _ _ strC_st
theorem strC_ltE (n : Nat) (xs : List (ByteArray)) : ltE n (xs.map strC) = true := lte_cl _ _ (strC_clE xs)
theorem strC_clz (xs : List (ByteArray)) : (xs.map strC).map (List.map clz) = xs.map strC := clz_E _ (strC_clE xs)
theorem strC_shV (n : Nat) (xs : List (ByteArray)) : (xs.map strC).map (List.map (shV n)) = xs.map strC := shV_E _ _ (strC_clE xs)
theorem strC_snoc (xs : List (ByteArray)) (s : ByteArray) : xs.map strC ++ [[.c (.string (s))]] = (xs ++ [(s : ByteArray)]).map strC := by rw [List.map_append]; rfl
theorem strC_set (xs : List (ByteArray)) (q : Nat) (s : ByteArray) : (xs.map strC).set q [.c (.string (s))] = (xs.set q (s : ByteArray)).map strC := by rw [List.map_set]; rfl
theorem strC_rep (q : Nat) (s : ByteArray) : List.replicate q [.c (.string (s))] = (List.replicate q (s : ByteArray)).map strC := map_rep _ _ _ _ rfl
theorem strC_tk (xs : List (ByteArray)) : (xs.map strC).take xs.length = xs.map strC := List.take_of_length_le (by simp)
theorem strC_ks (xs : List (ByteArray)) : ksB (1) (xs.map strC) = true := by simp [ksB, strC]
theorem strC_fr (xs : List (ByteArray)) : freeE (xs.map strC) = true := fee_map _ _ (fun x => by first | rfl | (cases x; rfl))
attribute [go_sem] strC_cl strC_st strC_clE strC_stL strC_ltE strC_clz strC_shV strC_snoc strC_ks strC_tk strC_fr strC_set strC_rep
def markIntS (k : Int) (i : Nat) : Int := k + i
theorem c_toIntS (xs : List Int) (hn : xs.length ≤ 1000000000) (K : AV → AH → Prop) (hk : K (.one (.sl 0 0 0 xs.length)) [.own 0 3 1 (some xs.length) (xs.map intC)]) : ACalls Tryd.prog 23 [(.one (.im (xs.map intC)))] [] K := by
  refine acall_c Tryd.f23.results.toList mixed Tryd.func23 rfl rfl (by kernel_rfl) ?_
  intro Q hQ hQO
  simp only [go_sem]
  refine ⟨by omega, Nat.le_trans hn (by decide), ?_⟩
  refine for_at (xs.length) [0, 3] (fun i f h => f 4 = (.one (.c (.int .i64 (i)))) ∧ h = [.own 0 3 1 (some xs.length) ((fillR (fun j => xs[j]?.getD 0) (List.replicate xs.length 0) i).map intC)]) (GC.now ?_) ?_
  · simp only [go_sem, nc_0, true_and, fill_0]
  · rintro i f h J hi hA ⟨e4, rfl⟩ hJ
    simp only [go_sem, fill_0] at hA
    simp only [go_sem, hA, e4, fill_0]
    refine c_split (fun hb => ?_) (fun hb => ?_)
    rotate_left
    · simp only [go_sem, hb, hA, e4, fill_0]
      obtain rfl := ge_len hb hi
      (try simp only [go_sem, hA, e4, fill_0, fill_copy xs _ _ List.length_replicate]); repeat' (first | (with_reducible refine c_split (fun hb => ?_) (fun hb => ?_) <;> try simp only [go_sem, hb, hA, e4, fill_0, fill_copy xs _ _ List.length_replicate]) | (with_reducible refine w_split (fun hb => ?_) (fun hb => ?_) <;> try simp only [go_sem, hb, hA, e4, fill_0, fill_copy xs _ _ List.length_replicate]) | (fail))
      refine hQO [0] _ _ (GC.now ?_) <;> simp only [Tryd.f23, go_sem, List.nodup_cons, List.nodup_nil, List.mem_cons, List.not_mem_nil, or_false, not_false_eq_true, List.idxOf?_cons, List.idxOf?_nil, Option.map_none]
      exact hk
    have hi := lt_len hb
    have hw := wrap_nat i (by omega)
    have hil : (i : Int) < ((xs.length : Nat) : Int) := Int.ofNat_lt.2 hi
    have hg0 : (xs)[i]? = some ((xs)[i]) := List.getElem?_eq_getElem (by omega)
    simp only [go_sem, hb, hA, e4, fill_0, hg0]
    try simp only [go_sem, hA, e4, fill_0, hil, hg0]
    have hold := fill_get (fun j => xs[j]?.getD (0 : Int)) (List.replicate xs.length 0) i
    rw [List.getElem?_replicate, if_pos hi] at hold
    have hset := fill_set (fun j => xs[j]?.getD (0 : Int)) (List.replicate xs.length 0) i (by simpa using hi) xs[i] (by rw [hg0]; rfl)
    (try simp only [go_sem, hA, e4, fill_0, hil, hg0, hold]); repeat' (first | (with_reducible refine c_split (fun hb => ?_) (fun hb => ?_) <;> try simp only [go_sem, hb, hA, e4, fill_0, hil, hg0, hold]) | (with_reducible refine w_split (fun hb => ?_) (fun hb => ?_) <;> try simp only [go_sem, hb, hA, e4, fill_0, hil, hg0, hold]) | (fail))
    refine gc_trim 1 (by decide) (by simp only [go_sem]) (by simp only [go_sem]) (hJ _ _ hi (by simp only [go_sem, hA, e4, fill_0]) ⟨?_, ?_⟩) <;> try simp only [go_sem, hA, e4, fill_0, hw, hset]
theorem c_eqIntS (xs : List Int) (hn : xs.length ≤ 1000000000) (K : AV → AH → Prop) (hk : K (.one (.c (.bool (true)))) []) : ACalls Tryd.prog 26 [(.one (.im (xs.map intC))), (.one (.im (xs.map intC)))] [] K := by
  refine acall_c Tryd.f26.results.toList mixed Tryd.func26 rfl rfl (by kernel_rfl) ?_
  intro Q hQ hQO
  simp only [go_sem, BEq.rfl]
  refine for_at (xs.length) [0, 1] (fun i f h => f 5 = (.one (.c (.int .i64 (i)))) ∧ h = []) (GC.now ?_) ?_
  · simp only [go_sem, nc_0, true_and, BEq.rfl]
  · rintro i f h J hi hA ⟨e5, rfl⟩ hJ
    simp only [go_sem, BEq.rfl] at hA
    simp only [go_sem, hA, e5, BEq.rfl]
    refine c_split (fun hb => ?_) (fun hb => ?_)
    rotate_left
    · simp only [go_sem, hb, hA, e5, BEq.rfl]
      obtain rfl := ge_len hb hi
      (try simp only [go_sem, hA, e5, BEq.rfl]); repeat' (first | (with_reducible refine c_split (fun hb => ?_) (fun hb => ?_) <;> try simp only [go_sem, hb, hA, e5, BEq.rfl]) | (with_reducible refine w_split (fun hb => ?_) (fun hb => ?_) <;> try simp only [go_sem, hb, hA, e5, BEq.rfl]) | (with_reducible refine tw_split (fun hb => ?_) (fun hb => ?_) <;> try simp only [go_sem, hb, hA, e5, BEq.rfl]) | (with_reducible refine draw_at 0 17 (by with_unfolding_all rfl) [(0, true, true), (1, true, true), (2, true, true), (3, true, true), (4, true, false), (5, false, false), (6, false, false), (7, false, false), (8, false, true)] (by kernel_rfl) ?_ <;> try simp only [go_sem, hA, e5, BEq.rfl]) | (with_reducible refine hQ _ _ ?_ <;> simp only [Tryd.f26, go_sem, hA, e5, BEq.rfl]))
      exact hk
    have hi := lt_len hb
    have hw := wrap_nat i (by omega)
    have hil : (i : Int) < ((xs.length : Nat) : Int) := Int.ofNat_lt.2 hi
    have hg0 : (xs)[i]? = some ((xs)[i]) := List.getElem?_eq_getElem (by omega)
    simp only [go_sem, hb, hA, e5, BEq.rfl, hg0]
    try simp only [go_sem, hA, e5, BEq.rfl, hil, hg0]
    (try simp only [go_sem, hA, e5, BEq.rfl, hil, hg0]); repeat' (first | (with_reducible refine c_split (fun hb => ?_) (fun hb => ?_) <;> try simp only [go_sem, hb, hA, e5, BEq.rfl, hil, hg0]) | (with_reducible refine w_split (fun hb => ?_) (fun hb => ?_) <;> try simp only [go_sem, hb, hA, e5, BEq.rfl, hil, hg0]) | (with_reducible refine tw_split (fun hb => ?_) (fun hb => ?_) <;> try simp only [go_sem, hb, hA, e5, BEq.rfl, hil, hg0]) | (with_reducible refine draw_at 0 17 (by with_unfolding_all rfl) [(0, true, true), (1, true, true), (2, true, true), (3, true, true), (4, true, false), (5, false, false), (6, false, false), (7, false, false), (8, false, true)] (by kernel_rfl) ?_ <;> try simp only [go_sem, hA, e5, BEq.rfl, hil, hg0]) | (fail))
    refine GC.now (hJ _ _ hi (by simp only [go_sem, hA, e5, BEq.rfl]) ⟨?_, ?_⟩) <;> try simp only [go_sem, hA, e5, BEq.rfl, hw]
def markStringS (k : Int) (i : Nat) : ByteArray := markS (k + i)
end Go.Proofs.YtaahlnjldenhpaaDoor
