/- Nums: numbers and checks out of bytes, as the program and as the specification reads them. Conditions: none. -/
import Derived.Test.YtedkpjaojdkpcaaGreatLG
import Derived.Test.YtedkpjaojdkpcaaGreatLT
import Derived.Test.YtedkpjaojdkpcaaGreatLFind
namespace Go.Proofs.YtedkpjaojdkpcaaGreat
open Go.BL Go.RowKit
set_option linter.unusedVariables false
set_option linter.unusedSimpArgs false
set_option maxRecDepth 100000
attribute [local go_sem] byteC
theorem byteC_cl (x : UInt8) : (byteC x).all clB = true := by first | rfl | (cases x; rfl)
theorem byteC_st (x : UInt8) : (byteC x).all stB = true := by first | rfl | (cases x; rfl)
theorem byteC_clE (xs : List (UInt8)) : clE (xs.map byteC) = true := clE_map _ _ byteC_cl
theorem byteC_stL (xs : List (UInt8)) : stL (xs.map byteC) = true := stL_map _ _ byteC_st
theorem byteC_ltE (n : Nat) (xs : List (UInt8)) : ltE n (xs.map byteC) = true := lte_cl _ _ (byteC_clE xs)
theorem byteC_clz (xs : List (UInt8)) : (xs.map byteC).map (List.map clz) = xs.map byteC := clz_E _ (byteC_clE xs)
theorem byteC_shV (n : Nat) (xs : List (UInt8)) : (xs.map byteC).map (List.map (shV n)) = xs.map byteC := shV_E _ _ (byteC_clE xs)
theorem byteC_snoc (xs : List (UInt8)) (b : UInt8) : xs.map byteC ++ [[.c (.int .u8 ((b.toNat : Int)))]] = (xs ++ [(b : UInt8)]).map byteC := by rw [List.map_append]; rfl
theorem byteC_set (xs : List (UInt8)) (q : Nat) (b : UInt8) : (xs.map byteC).set q [.c (.int .u8 ((b.toNat : Int)))] = (xs.set q (b : UInt8)).map byteC := by rw [List.map_set]; rfl
theorem byteC_rep (q : Nat) (b : UInt8) : List.replicate q [.c (.int .u8 ((b.toNat : Int)))] = (List.replicate q (b : UInt8)).map byteC := map_rep _ _ _ _ rfl
theorem byteC_tk (xs : List (UInt8)) : (xs.map byteC).take xs.length = xs.map byteC := List.take_of_length_le (by simp)
theorem byteC_ks (xs : List (UInt8)) : ksB (1) (xs.map byteC) = true := by simp [ksB, byteC]
theorem byteC_fr (xs : List (UInt8)) : freeE (xs.map byteC) = true := fee_map _ _ (fun x => by first | rfl | (cases x; rfl))
attribute [go_sem] byteC_cl byteC_st byteC_clE byteC_stL byteC_ltE byteC_clz byteC_shV byteC_snoc byteC_ks byteC_tk byteC_fr byteC_set byteC_rep
/-- A number from place a + k on, behind what stands for k bytes. -/
def gnGo (bs : List UInt8) (a : Nat) : Nat → Nat → Nat → Option (Nat × Nat)
  | 0, _, _ => none
  | f + 1, k, x => match bs[a + k]? with
    | none => none
    | some d => if d.toNat < 128 then (if d.toNat = 0 ∧ 0 < k then none else some (x + d.toNat % 128 * 128 ^ k, a + k + 1)) else gnGo bs a f (k + 1) (x + d.toNat % 128 * 128 ^ k)
def getNum (bs : List UInt8) (at_ : Int) : Option (Nat × Nat) := if 0 ≤ at_ ∧ at_ < bs.length then gnGo bs at_.toNat 9 0 0 else none
def numA : Option (Nat × Nat) → AV
  | some (x, n) => .tup [(.one (.c (.int .i64 ((x : Int))))), (.one (.c (.int .i64 ((n : Int))))), (.one (.c (.bool (true))))]
  | none => .tup [(.one (.c (.int .i64 (0)))), (.one (.c (.int .i64 (0)))), (.one (.c (.bool (false))))]
theorem gn_arith {d k x p : Nat} (hp : p = 128 ^ k) (hk : k ≤ 8) (hx : x < p) : p ≤ 72057594037927936 ∧ x + d % 128 * p < p * 128 ∧ p * 128 = 128 ^ (k + 1) ∧ wrap64 (p : Int) = p ∧ wrap64 (((d % 128 : Nat) : Int) * (p : Int)) = ((d % 128 * p : Nat) : Int) ∧ wrap64 ((x : Int) + ((d % 128 * p : Nat) : Int)) = ((x + d % 128 * p : Nat) : Int) := by
  have h1 : p ≤ 128 ^ 8 := hp ▸ Nat.pow_le_pow_right (by decide) hk
  have h1 : p ≤ 72057594037927936 := h1
  have h2 : d % 128 * p ≤ 127 * p := Nat.mul_le_mul_right p (by omega)
  have h3 : (((d % 128 : Nat) : Int) * (p : Int)) = ((d % 128 * p : Nat) : Int) := by rw [Int.natCast_mul]
  generalize hq : d % 128 * p = q at *
  refine ⟨h1, by omega, by rw [hp, Nat.pow_succ], by unfold wrap64; omega, ?_, by unfold wrap64; omega⟩
  rw [h3]; unfold wrap64; omega
theorem u8_wrap (b : UInt8) : IntKind.i64.wrap (b.toNat : Int) = (b.toNat : Int) := by
  have := b.toNat_lt
  rw [IntKind.wrap_i64]; omega
theorem nat_tmod128 (d : Nat) : (d : Int).tmod 128 = ((d % 128 : Nat) : Int) := by rw [Int.tmod_eq_emod_of_nonneg (by omega)]; rfl
theorem not_lt_len {n i : Nat} (h : decide ((i : Int) < (n : Int)) = false) : n ≤ i := by have := of_decide_eq_false h; omega
theorem gn_less {k : Nat} (h : k ≤ 8) : 9 - (k + 1) < 9 - k := by omega
theorem wrap_add2 {a k n : Nat} (h : a + k < n) (hn : n ≤ 1000000000000000) : wrap64 ((a : Int) + (k : Int)) = ((a + k : Nat) : Int) ∧ wrap64 (((a + k : Nat) : Int) + 1) = ((a + k + 1 : Nat) : Int) := by constructor <;> (unfold wrap64; omega)
theorem nat_eq0 (d : Nat) : ((d : Int) == 0) = decide (d = 0) := by
  by_cases h : d = 0
  · subst h; rfl
  · rw [decide_eq_false h]; simpa using h
theorem nat_lt128 (d : Nat) : decide ((d : Int) < 128) = decide (d < 128) := by simp; omega
theorem nat_pos' (k : Nat) : decide ((0 : Int) < (k : Int)) = decide (0 < k) := by simp
theorem ofInt_nat (a : Nat) (ha : a < 9223372036854775808) : (BitVec.ofInt IntKind.i64.bits (a : Int)).toNat = a := by
  show (BitVec.ofInt 64 (a : Int)).toNat = a
  rw [BitVec.toNat_ofInt]
  omega
theorem wrap_nat64 (a : Nat) (ha : a < 9223372036854775808) : IntKind.i64.wrap (a : Int) = (a : Int) := by rw [IntKind.wrap_i64]; omega
theorem and_nat (a b : Nat) (ha : a < 9223372036854775808) (hb : b < 9223372036854775808) : IntKind.i64.wrap (((BitVec.ofInt IntKind.i64.bits (a : Int) &&& BitVec.ofInt IntKind.i64.bits (b : Int)).toNat : Nat) : Int) = ((a &&& b : Nat) : Int) := by
  rw [BitVec.toNat_and, ofInt_nat a ha, ofInt_nat b hb]
  exact wrap_nat64 _ (Nat.lt_of_le_of_lt Nat.and_le_left ha)
theorem or_nat (a b : Nat) (ha : a < 9223372036854775808) (hb : b < 9223372036854775808) : IntKind.i64.wrap (((BitVec.ofInt IntKind.i64.bits (a : Int) ||| BitVec.ofInt IntKind.i64.bits (b : Int)).toNat : Nat) : Int) = ((a ||| b : Nat) : Int) := by
  rw [BitVec.toNat_or, ofInt_nat a ha, ofInt_nat b hb]
  exact wrap_nat64 _ (Nat.or_lt_two_pow (n := 63) ha hb)
theorem and_127 (d : Nat) (hd : d < 256) : IntKind.i64.wrap (((BitVec.ofInt IntKind.i64.bits (d : Int) &&& BitVec.ofInt IntKind.i64.bits 127).toNat : Nat) : Int) = ((d % 128 : Nat) : Int) := by
  have h := and_nat d 127 (by omega) (by omega)
  rw [Nat.and_two_pow_sub_one_eq_mod d 7] at h
  exact h
theorem shl_7k (q k : Nat) (hq : q < 128) (hk : k ≤ 8) : IntKind.i64.wrap ((q : Int) * 2 ^ min ((7 * (k : Int)).toNat) IntKind.i64.bits) = ((q * 128 ^ k : Nat) : Int) := by
  have h1 : (7 * (k : Int)).toNat = 7 * k := by omega
  have h2 : min (7 * k) IntKind.i64.bits = 7 * k := Nat.min_eq_left (show 7 * k ≤ 64 by omega)
  have h3 : (2 : Int) ^ (7 * k) = ((128 ^ k : Nat) : Int) := by
    rw [show (128 : Nat) ^ k = 2 ^ (7 * k) by rw [Nat.pow_mul], Int.natCast_pow]; rfl
  have h4 : 128 ^ k ≤ 128 ^ 8 := Nat.pow_le_pow_right (by decide) hk
  have h5 : q * 128 ^ k ≤ 127 * 128 ^ 8 := Nat.mul_le_mul (by omega) h4
  rw [h1, h2, h3, ← Int.natCast_mul]
  exact wrap_nat64 _ (Nat.lt_of_le_of_lt h5 (by decide))
theorem or_add (x q k : Nat) (hx : x < 128 ^ k) : x ||| q * 128 ^ k = x + q * 128 ^ k := by
  have h : (128 : Nat) ^ k = 2 ^ (7 * k) := by rw [Nat.pow_mul]
  rw [h] at hx ⊢
  rw [Nat.or_comm, ← Nat.shiftLeft_eq, ← Nat.shiftLeft_add_eq_or_of_lt hx, Nat.add_comm]
theorem k7 {k : Nat} (hk : k ≤ 8) : wrap64 (7 * (k : Int)) = 7 * (k : Int) ∧ 0 ≤ 7 * (k : Int) := by constructor <;> (try unfold wrap64) <;> omega
theorem nat_gt127 (d : Nat) : decide ((127 : Int) < (d : Int)) = decide (127 < d) := by simp; omega
theorem gn_or {d k x : Nat} (hk : k ≤ 8) (hx : x < 128 ^ k) : IntKind.i64.wrap (((BitVec.ofInt IntKind.i64.bits (x : Int) ||| BitVec.ofInt IntKind.i64.bits ((d % 128 * 128 ^ k : Nat) : Int)).toNat : Nat) : Int) = ((x + d % 128 * 128 ^ k : Nat) : Int) ∧ x + d % 128 * 128 ^ k < 128 ^ (k + 1) := by
  obtain ⟨ha1, ha2, ha3, _⟩ := gn_arith (d := d) (p := 128 ^ k) rfl hk hx
  refine ⟨?_, by rw [← ha3]; exact ha2⟩
  have h1 : d % 128 * 128 ^ k ≤ 127 * 128 ^ k := Nat.mul_le_mul_right _ (by omega)
  generalize hq : 128 ^ k = q at *
  rw [or_nat x (d % 128 * q) (by omega) (by omega), ← hq, or_add x (d % 128) k (by rw [hq]; exact hx)]
def ckTo (bs : List UInt8) : Nat → Nat × Nat
  | 0 => (0, 0)
  | i + 1 => let c := ckTo bs i; let x := (c.1 + (bs[i]?.getD 0).toNat + 1) % 65535; (x, (c.2 + x) % 65535)
def ckN (bs : List UInt8) : Nat := 65536 * (ckTo bs bs.length).2 + (ckTo bs bs.length).1
theorem ck_lt (bs : List UInt8) : ∀ i, (ckTo bs i).1 < 65535 ∧ (ckTo bs i).2 < 65535
  | 0 => by simp [ckTo]
  | i + 1 => by simp only [ckTo]; exact ⟨Nat.mod_lt _ (by decide), Nat.mod_lt _ (by decide)⟩
theorem ck_arith (bs : List UInt8) (i : Nat) (b : UInt8) (hg : bs[i]? = some b) :
    (wrap64 (wrap64 (((ckTo bs i).1 : Int) + (b.toNat : Int)) + 1)).tmod 65535 = ((ckTo bs (i + 1)).1 : Int) ∧ (wrap64 (((ckTo bs i).2 : Int) + ((ckTo bs (i + 1)).1 : Int))).tmod 65535 = ((ckTo bs (i + 1)).2 : Int) := by
  obtain ⟨h1, h2⟩ := ck_lt bs i
  have h3 := b.toNat_lt
  have h4 : (ckTo bs (i + 1)).1 = ((ckTo bs i).1 + b.toNat + 1) % 65535 := by simp only [ckTo, hg, Option.getD_some]
  have h5 : (ckTo bs (i + 1)).2 = ((ckTo bs i).2 + (ckTo bs (i + 1)).1) % 65535 := by simp only [ckTo]
  have h6 : (ckTo bs (i + 1)).1 < 65535 := (ck_lt bs (i + 1)).1
  have w1 : wrap64 (wrap64 (((ckTo bs i).1 : Int) + (b.toNat : Int)) + 1) = (((ckTo bs i).1 + b.toNat + 1 : Nat) : Int) := by unfold wrap64; omega
  have w2 : wrap64 (((ckTo bs i).2 : Int) + ((ckTo bs (i + 1)).1 : Int)) = (((ckTo bs i).2 + (ckTo bs (i + 1)).1 : Nat) : Int) := by unfold wrap64; omega
  rw [w1, w2, Int.tmod_eq_emod_of_nonneg (Int.natCast_nonneg _), Int.tmod_eq_emod_of_nonneg (Int.natCast_nonneg _)]
  constructor
  · rw [h4]; rfl
  · rw [h5]; rfl
theorem ck_end (bs : List UInt8) (i : Nat) : wrap64 (wrap64 (65536 * ((ckTo bs i).2 : Int)) + ((ckTo bs i).1 : Int)) = ((65536 * (ckTo bs i).2 + (ckTo bs i).1 : Nat) : Int) := by
  obtain ⟨h1, h2⟩ := ck_lt bs i
  unfold wrap64; omega
theorem c_spec_Check (bs : List UInt8) (hn : bs.length ≤ 1000000000000000) (K : AV → AH → Prop) (hk : K (.one (.c (.int .i64 ((ckN bs : Int))))) []) : ACalls Tryz.prog 46 [(.one (.im (bs.map byteC)))] [] K := by
  have h0 : (65535 : Int) ≠ 0 := by decide
  refine acall_c Tryz.f46.results.toList mixed Tryz.func46 rfl rfl (by kernel_rfl) ?_
  intro Q hQ hQO
  simp only [go_sem]
  refine for_at (bs.length) [0] (fun i f h => f 5 = (.one (.c (.int .i64 (i)))) ∧ f 3 = (.one (.c (.int .i64 (((ckTo bs i).1 : Int))))) ∧ f 4 = (.one (.c (.int .i64 (((ckTo bs i).2 : Int))))) ∧ h = []) (GC.now ?_) ?_
  · simp only [go_sem, nc_0, true_and]
    simp [ckTo]
  · rintro i f h J hi hA ⟨e5, e3, e4, rfl⟩ hJ
    simp only [go_sem] at hA
    simp only [go_sem, hA, e5, e3, e4]
    refine c_split (fun hb => ?_) (fun hb => ?_)
    rotate_left
    · simp only [go_sem, hb, hA, e5, e3, e4]
      obtain rfl := ge_len hb hi
      (try simp only [go_sem, hA, e5, e3, e4, ck_end]); repeat' (first | (with_reducible refine c_split (fun hb => ?_) (fun hb => ?_) <;> try simp only [go_sem, hb, hA, e5, e3, e4, ck_end]) | (with_reducible refine w_split (fun hb => ?_) (fun hb => ?_) <;> try simp only [go_sem, hb, hA, e5, e3, e4, ck_end]) | (with_reducible refine hQ _ _ ?_ <;> simp only [Tryz.f46, go_sem, hA, e5, e3, e4, ck_end]))
      exact hk
    have hi := lt_len hb
    have hw := wrap_nat i (by omega)
    have hil : (i : Int) < ((bs.length : Nat) : Int) := Int.ofNat_lt.2 hi
    have hg0 : (bs)[i]? = some ((bs)[i]) := List.getElem?_eq_getElem (by omega)
    simp only [go_sem, hb, hA, e5, e3, e4, hg0]
    try simp only [go_sem, hA, e5, e3, e4, hil, hg0]
    obtain ⟨hc1, hc2⟩ := ck_arith bs i _ hg0
    have hwd := u8_wrap bs[i]
    (try simp only [go_sem, hA, e5, e3, e4, hil, hg0, hwd, ne_eq, h0, not_false_eq_true, b_rem, hc1, hc2]); repeat' (first | (with_reducible refine c_split (fun hb => ?_) (fun hb => ?_) <;> try simp only [go_sem, hb, hA, e5, e3, e4, hil, hg0, hwd, ne_eq, h0, not_false_eq_true, b_rem, hc1, hc2]) | (with_reducible refine w_split (fun hb => ?_) (fun hb => ?_) <;> try simp only [go_sem, hb, hA, e5, e3, e4, hil, hg0, hwd, ne_eq, h0, not_false_eq_true, b_rem, hc1, hc2]) | (fail))
    refine GC.now (hJ _ _ hi (by simp only [go_sem, hA, e5, e3, e4]) ⟨?_, ?_, ?_, ?_⟩) <;> try simp only [go_sem, hA, e5, e3, e4, hw]
theorem c_impl_Check (bs : List UInt8) (hn : bs.length ≤ 1000000000000000) (K : AV → AH → Prop) (hk : K (.one (.c (.int .i64 ((ckN bs : Int))))) []) : ACalls Tryz.prog 98 [(.one (.im (bs.map byteC)))] [] K := by
  have h0 : (65535 : Int) ≠ 0 := by decide
  refine acall_c Tryz.f98.results.toList mixed Tryz.func98 rfl rfl (by kernel_rfl) ?_
  intro Q hQ hQO
  simp only [go_sem]
  refine for_at (bs.length) [7, 8] (fun i f h => f 9 = (.one (.c (.int .i64 (i)))) ∧ f 3 = (.one (.c (.int .i64 (((ckTo bs i).1 : Int))))) ∧ f 4 = (.one (.c (.int .i64 (((ckTo bs i).2 : Int))))) ∧ h = []) (GC.now ?_) ?_
  · simp only [go_sem, nc_0, true_and]
    simp [ckTo]
  · rintro i f h J hi hA ⟨e9, e3, e4, rfl⟩ hJ
    simp only [go_sem] at hA
    simp only [go_sem, hA, e9, e3, e4]
    refine c_split (fun hb => ?_) (fun hb => ?_)
    rotate_left
    · simp only [go_sem, hb, hA, e9, e3, e4]
      obtain rfl := ge_len hb hi
      (try simp only [go_sem, hA, e9, e3, e4, ck_end]); repeat' (first | (with_reducible refine c_split (fun hb => ?_) (fun hb => ?_) <;> try simp only [go_sem, hb, hA, e9, e3, e4, ck_end]) | (with_reducible refine w_split (fun hb => ?_) (fun hb => ?_) <;> try simp only [go_sem, hb, hA, e9, e3, e4, ck_end]) | (with_reducible refine hQ _ _ ?_ <;> simp only [Tryz.f98, go_sem, hA, e9, e3, e4, ck_end]))
      exact hk
    have hi := lt_len hb
    have hw := wrap_nat i (by omega)
    have hil : (i : Int) < ((bs.length : Nat) : Int) := Int.ofNat_lt.2 hi
    have hg0 : (bs)[i]? = some ((bs)[i]) := List.getElem?_eq_getElem (by omega)
    simp only [go_sem, hb, hA, e9, e3, e4, hg0]
    try simp only [go_sem, hA, e9, e3, e4, hil, hg0]
    obtain ⟨hc1, hc2⟩ := ck_arith bs i _ hg0
    have hwd := u8_wrap bs[i]
    (try simp only [go_sem, hA, e9, e3, e4, hil, hg0, hwd, ne_eq, h0, not_false_eq_true, b_rem, hc1, hc2]); repeat' (first | (with_reducible refine c_split (fun hb => ?_) (fun hb => ?_) <;> try simp only [go_sem, hb, hA, e9, e3, e4, hil, hg0, hwd, ne_eq, h0, not_false_eq_true, b_rem, hc1, hc2]) | (with_reducible refine w_split (fun hb => ?_) (fun hb => ?_) <;> try simp only [go_sem, hb, hA, e9, e3, e4, hil, hg0, hwd, ne_eq, h0, not_false_eq_true, b_rem, hc1, hc2]) | (fail))
    refine GC.now (hJ _ _ hi (by simp only [go_sem, hA, e9, e3, e4]) ⟨?_, ?_, ?_, ?_⟩) <;> try simp only [go_sem, hA, e9, e3, e4, hw]
end Go.Proofs.YtedkpjaojdkpcaaGreat
