/- Seal: numbers as bytes, bytes sealed with a check. Conditions: none. -/
import Derived.Test.YtaahlnjldenhpaaDoorLG
import Derived.Test.YtaahlnjldenhpaaDoorLT
import Derived.Test.YtaahlnjldenhpaaDoorLUnseal
namespace Go.Proofs.YtaahlnjldenhpaaDoor
open Go.BL Go.RowKit
set_option linter.unusedVariables false
set_option linter.unusedSimpArgs false
set_option maxRecDepth 100000
attribute [local go_sem] byteC
/-- The form of a number. -/
def putN (x : Nat) : List UInt8 := if 127 < x then UInt8.ofNat (x % 128 + 128) :: putN (x / 128) else [UInt8.ofNat x]
termination_by x
decreasing_by omega
theorem putN_big {x : Nat} (h : 127 < x) : putN x = UInt8.ofNat (x % 128 + 128) :: putN (x / 128) := by rw [putN, if_pos h]
theorem putN_small {x : Nat} (h : ¬ 127 < x) : putN x = [UInt8.ofNat x] := by rw [putN, if_neg h]
def putNum (x : Int) : List UInt8 := if x < 0 then [] else putN x.toNat
theorem put_step {x out f : Nat} (hx : 127 < x) (hf : x < 128 ^ f) (h : out + f = 9) : ∃ f', f = f' + 1 ∧ x / 128 < 128 ^ f' ∧ out + 1 + f' = 9 := by
  obtain ⟨f', rfl⟩ : ∃ q, f = q + 1 := ⟨f - 1, by cases f; simp at hf; omega; omega⟩
  refine ⟨f', rfl, ?_, by omega⟩
  rw [Nat.pow_succ] at hf
  exact Nat.div_lt_of_lt_mul (by rw [Nat.mul_comm]; exact hf)
theorem put_less {x : Nat} (h : 127 < x) : x / 128 < x := by omega
theorem shr7 (x : Nat) : (x : Int).fdiv (2 ^ min (7 : Int).toNat 64) = ((x / 128 : Nat) : Int) := by
  rw [show (2 : Int) ^ min (7 : Int).toNat 64 = 128 by decide, Int.fdiv_eq_ediv_of_nonneg _ (by decide)]; rfl
theorem and127 (x : Nat) (hx : x < 9223372036854775808) : IntKind.i64.wrap (((BitVec.ofInt IntKind.i64.bits (x : Int) &&& BitVec.ofInt IntKind.i64.bits 127).toNat : Nat) : Int) = ((x % 128 : Nat) : Int) := by
  have h := and_nat x 127 hx (by omega)
  rw [Nat.and_two_pow_sub_one_eq_mod x 7] at h
  exact h
theorem or128 (x : Nat) : IntKind.i64.wrap (((BitVec.ofInt IntKind.i64.bits ((x % 128 : Nat) : Int) ||| BitVec.ofInt IntKind.i64.bits 128).toNat : Nat) : Int) = ((x % 128 + 128 : Nat) : Int) := by
  have h := or_nat (x % 128) 128 (by omega) (by omega)
  have h2 : x % 128 ||| 128 = x % 128 + 128 := or_add (x % 128) 1 1 (by omega)
  rw [h2] at h
  exact h
/-- By content. -/
theorem im_row {K : AV → AH → Prop} (bs : List UInt8) (hk : K (.one (.im (bs.map byteC))) []) : K (retA [.own 0 5 1 none (bs.map byteC)] (.one (.sl 0 0 0 bs.length))) [] := by
  have : retA [AO.own 0 5 1 none (bs.map byteC)] (.one (.sl 0 0 0 bs.length)) = (.one (.im (bs.map byteC))) := by
    simp only [retA, imA, imV, objR_at, List.getElem?_cons_zero, obR_own, Nat.zero_add, List.drop_zero, byteC_tk, byteC_clz, List.length_map, Nat.le_refl, if_true]
  rw [this]; exact hk
def rowC (bs : List UInt8) : List CV := [.im (bs.map byteC)]
def lenTo (xss : List (List UInt8)) : Nat → Nat
  | 0 => 0
  | i + 1 => lenTo xss i + (xss[i]?.getD []).length
theorem lenTo_eq (xss : List (List UInt8)) : ∀ i, lenTo xss i = ((xss.take i).flatten).length
  | 0 => rfl
  | i + 1 => by
    rw [lenTo, lenTo_eq xss i, List.take_add_one]
    cases xss[i]? <;> simp
theorem lenTo_mono (xss : List (List UInt8)) : ∀ {i j : Nat}, i ≤ j → lenTo xss i ≤ lenTo xss j := fun {i j} h => by
  induction j with
  | zero => rw [show i = 0 by omega]; exact Nat.le_refl _
  | succ j ih =>
    rcases Nat.lt_or_ge i (j + 1) with h' | h'
    · have := ih (by omega)
      rw [lenTo]; omega
    · rw [show i = j + 1 by omega]; exact Nat.le_refl _
theorem cset_fill (A : List UInt8) (n m : Nat) (bs : List UInt8) (z : List CV) (h : A.length + bs.length + m = n) : cset (A.map byteC ++ List.replicate (n - A.length) z) A.length (bs.map byteC) = (A ++ bs).map byteC ++ List.replicate (n - (A ++ bs).length) z := by
  apply List.ext_getElem?
  intro j
  rw [cset_get _ _ _ _ (by simp; omega)]
  simp only [List.length_map]
  by_cases hc : A.length ≤ j ∧ j < A.length + bs.length
  · rw [if_pos hc, List.map_append, List.append_assoc, List.getElem?_append_right (by simp; omega), List.getElem?_append_left (by simp; omega)]
    congr 1; simp
  · rw [if_neg hc]
    by_cases h1 : j < A.length
    · rw [List.getElem?_append_left (by simpa using h1), List.map_append, List.append_assoc, List.getElem?_append_left (by simpa using h1)]
    · rw [List.getElem?_append_right (by simp; omega), List.getElem?_append_right (by simp; omega), List.getElem?_replicate, List.getElem?_replicate]
      simp only [List.length_map, List.length_append]
      by_cases h2 : j < n
      · rw [if_pos (by omega), if_pos (by omega)]
      · rw [if_neg (by omega), if_neg (by omega)]
theorem fee_rep (n : Nat) : freeE (List.replicate n [.c (.int .u8 (0))]) = true := by
  unfold freeE
  rw [List.all_eq_true]
  intro x hx
  rw [List.eq_of_mem_replicate hx]
  rfl
def sealS (bs : List UInt8) : List UInt8 × Bool := if 9000 < bs.length then ([], false) else (putNum bs.length ++ bs ++ ckBytes (ckN bs), true)
def sealR (s : List UInt8 × Bool) : AV := .tup [(.one (.im (s.1.map byteC))), (.one (.c (.bool (s.2))))]
theorem putN_len (x : Nat) : 0 < (putN x).length := by rw [putN]; split <;> simp
theorem putNum_nat (n : Nat) : putNum (n : Int) = putN n := by rw [putNum, if_neg (by omega), Int.toNat_natCast]
theorem putN_le : ∀ (f x : Nat), x < 128 ^ f → (putN x).length ≤ f + 1
  | 0, x, h => by rw [putN_small (by simp at h; omega)]; simp
  | f + 1, x, h => by
    by_cases hb : 127 < x
    · rw [putN_big hb]
      have := putN_le f (x / 128) (Nat.div_lt_of_lt_mul (by rw [Nat.pow_succ] at h; rw [Nat.mul_comm]; exact h))
      simp; omega
    · rw [putN_small hb]; simp
theorem putNum_le (n : Nat) (h : n < 9223372036854775808) : (putNum (n : Int)).length ≤ 10 := by
  rw [putNum_nat]; exact putN_le 9 n (by rw [show (128 : Nat) ^ 9 = 9223372036854775808 by decide]; exact h)
end Go.Proofs.YtaahlnjldenhpaaDoor
