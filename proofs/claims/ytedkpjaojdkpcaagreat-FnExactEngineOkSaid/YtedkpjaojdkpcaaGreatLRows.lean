/- Rows: rows of whole numbers and of texts, as the laws' own functions handle them. Conditions: none. -/
import Derived.Test.YtedkpjaojdkpcaaGreatLG
import Derived.Test.YtedkpjaojdkpcaaGreatLT
import Derived.Test.YtedkpjaojdkpcaaGreatLMark
namespace Go.Proofs.YtedkpjaojdkpcaaGreat
open Go.BL Go.RowKit
set_option linter.unusedVariables false
set_option linter.unusedSimpArgs false
set_option maxRecDepth 100000
attribute [local go_sem] intC
def strC (s : ByteArray) : List CV := [.c (.string (s))]
attribute [local go_sem] strC
theorem strC_cl (x : ByteArray) : (strC x).all clB = true := by first | rfl | (cases x; rfl)
theorem strC_st (x : ByteArray) : (strC x).all stB = true := by first | rfl | (cases x; rfl)
theorem strC_clE (xs : List (ByteArray)) : clE (xs.map strC) = true := clE_map _ _ strC_cl
theorem strC_stL (xs : List (ByteArray)) : stL (xs.map strC) = true := stL_map _ _ strC_st
theorem strC_ltE (n : Nat) (xs : List (ByteArray)) : ltE n (xs.map strC) = true := lte_cl _ _ (strC_clE xs)
theorem strC_clz (xs : List (ByteArray)) : (xs.map strC).map (List.map clz) = xs.map strC := clz_E _ (strC_clE xs)
theorem strC_shV (n : Nat) (xs : List (ByteArray)) : (xs.map strC).map (List.map (shV n)) = xs.map strC := shV_E _ _ (strC_clE xs)
theorem strC_snoc (xs : List (ByteArray)) (s : ByteArray) : xs.map strC ++ [[.c (.string (s))]] = (xs ++ [(s : ByteArray)]).map strC := by rw [List.map_append]; rfl
theorem strC_set (xs : List (ByteArray)) (q : Nat) (s : ByteArray) : (xs.map strC).set q [.c (.string (s))] = (xs.set q (s : ByteArray)).map strC := by rw [List.map_set]; rfl
theorem strC_rep (q : Nat) (s : ByteArray) : List.replicate q [.c (.string (s))] = (List.replicate q (s : ByteArray)).map strC := map_rep _ _ _ _ rfl
theorem strC_tk (xs : List (ByteArray)) : (xs.map strC).take xs.length = xs.map strC := List.take_of_length_le (by simp)
theorem strC_ks (xs : List (ByteArray)) : ksB (1) (xs.map strC) = true := by simp [ksB, strC]
theorem strC_fr (xs : List (ByteArray)) : freeE (xs.map strC) = true := fee_map _ _ (fun x => by first | rfl | (cases x; rfl))
attribute [go_sem] strC_cl strC_st strC_clE strC_stL strC_ltE strC_clz strC_shV strC_snoc strC_ks strC_tk strC_fr strC_set strC_rep
def markIntS (k : Int) (i : Nat) : Int := k + i
def markStringS (k : Int) (i : Nat) : ByteArray := markS (k + i)
end Go.Proofs.YtedkpjaojdkpcaaGreat
