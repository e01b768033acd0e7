/- NumP: numbers read from their text, as plain functions. Conditions: none. -/
import Derived.Test.YtaahlnjldenhpaaDoorLG
import Derived.Test.YtaahlnjldenhpaaDoorLT
import Derived.Test.YtaahlnjldenhpaaDoorLText
import Derived.Lib.AtoiAllCases
import Derived.Lib.Strings
namespace Go.Proofs.YtaahlnjldenhpaaDoor
open Go.BL Go.RowKit
set_option linter.unusedVariables false
set_option linter.unusedSimpArgs false
set_option maxRecDepth 100000

def isD (b : UInt8) : Bool := decide (48 ≤ b.toNat ∧ b.toNat ≤ 57)
def digF (x : Nat) (b : UInt8) : Nat := 10 * x + (b.toNat - 48)
theorem digB {m : Nat} (h : m < 10) : (UInt8.ofNat (48 + m)).toNat = 48 + m := by rw [UInt8.toNat_ofNat']; omega
theorem isD_dig {m : Nat} (h : m < 10) : isD (UInt8.ofNat (48 + m)) = true := by rw [isD, digB h]; exact decide_eq_true (by omega)
theorem dec_all (u : Nat) : (Lib.decDigits u).all isD = true := by
  induction u using Nat.strongRecOn with
  | _ u ih =>
    rw [Lib.decDigits]
    split
    · rename_i h; rw [List.all_cons, isD_dig h]; rfl
    · rw [List.all_append, ih (u / 10) (by omega), List.all_cons, isD_dig (Nat.mod_lt _ (by decide))]; rfl
theorem dec_fold (u : Nat) : (Lib.decDigits u).foldl digF 0 = u := by
  induction u using Nat.strongRecOn with
  | _ u ih =>
    rw [Lib.decDigits]
    split
    · rename_i h; rw [List.foldl_cons, List.foldl_nil, digF, digB h]; omega
    · rw [List.foldl_append, ih (u / 10) (by omega), List.foldl_cons, List.foldl_nil, digF, digB (Nat.mod_lt _ (by decide))]; omega
theorem dec_ne (u : Nat) : Lib.decDigits u ≠ [] := by
  rw [Lib.decDigits]; split <;> simp
theorem fold_ge : ∀ (l : List UInt8) (a : Nat), a ≤ l.foldl digF a
  | [], a => Nat.le_refl _
  | c :: r, a => by
    have := fold_ge r (digF a c)
    rw [List.foldl_cons]
    unfold digF at this ⊢
    omega
theorem parse_fold : ∀ (l : List UInt8) (a : Nat), l.all isD = true → l.foldl digF a < 18446744073709551616 → Lib.parseUint10 a l = .ok (l.foldl digF a)
  | [], a, _, _ => rfl
  | c :: r, a, hd, hv => by
    rw [List.all_cons, Bool.and_eq_true] at hd
    have h1 : 48 ≤ c.toNat ∧ c.toNat ≤ 57 := of_decide_eq_true hd.1
    rw [List.foldl_cons] at hv ⊢
    have h2 := fold_ge r (digF a c)
    have h3 : digF a c = a * 10 + (c.toNat - 48) := by unfold digF; omega
    rw [Lib.parseUint10, if_pos h1, if_neg (by omega), if_neg (by omega), ← h3]
    exact parse_fold r _ hd.2 hv
theorem mag_dec {u : Nat} (h : u < 18446744073709551616) : Lib.parseMag (Lib.decDigits u) = .ok u := by
  rw [Lib.parseMag, if_neg (dec_ne u), parse_fold _ _ (dec_all u) (by rw [dec_fold]; exact h), dec_fold]
theorem dec_head {u : Nat} {c : UInt8} {r : List UInt8} (h : Lib.decDigits u = c :: r) : c.toNat ≠ 43 ∧ c.toNat ≠ 45 ∧ c ≠ 45 := by
  have := dec_all u
  rw [h, List.all_cons, Bool.and_eq_true] at this
  have h1 : 48 ≤ c.toNat ∧ c.toNat ≤ 57 := of_decide_eq_true this.1
  refine ⟨by omega, by omega, fun e => by subst e; simp at h1⟩
theorem atoi_itoa {n : Int} (h0 : -9223372036854775808 ≤ n) (h1 : n ≤ 9223372036854775807) : Lib.atoiAll (Lib.itoa n) = .ok n := by
  by_cases hn : n < 0
  · rw [Lib.itoa, if_pos hn, Lib.atoiAll_minus, mag_dec (by omega), Lib.signed, if_neg (by omega)]
    congr 1; omega
  · rw [Lib.itoa, if_neg hn]
    cases hd : Lib.decDigits n.toNat with
    | nil => exact absurd hd (dec_ne _)
    | cons c r =>
      obtain ⟨a, b, _⟩ := dec_head hd
      rw [Lib.atoiAll_plain c r a b, ← hd, mag_dec (by omega), Lib.signless, if_neg (by omega)]
      congr 1; omega
/-- What stands behind a '-'. -/
def bodyN (bs : List UInt8) : List UInt8 := if bs.head? = some 45 then bs.tail else bs
theorem trim_body (bs : List UInt8) : Lib.trimPrefix bs [45] = bodyN bs := by
  cases bs with
  | nil => rfl
  | cons c r =>
    rw [Lib.trimPrefix, Lib.hasPrefix, bodyN]
    by_cases h : c = 45
    · subst h; simp
    · have : ((45 : UInt8) == c) = false := beq_false_of_ne (Ne.symm h)
      simp [List.isPrefixOf, this, h]
def valN (bs : List UInt8) : Int := if bs.head? = some 45 then -(((bodyN bs).foldl digF 0 : Nat) : Int) else (((bodyN bs).foldl digF 0 : Nat) : Int)
def numS (bs : List UInt8) : Option Int := if (1 ≤ (bodyN bs).length ∧ (bodyN bs).length ≤ 16) ∧ (bodyN bs).all isD = true ∧ Lib.itoa (valN bs) = bs then some (valN bs) else none
def implN (bs : List UInt8) : Option Int := match Lib.atoiAll bs with
  | .ok v => if Lib.itoa v = bs ∧ (Lib.trimPrefix bs [45]).length ≤ 16 then some v else none
  | _ => none
theorem body_itoa (n : Int) : bodyN (Lib.itoa n) = Lib.decDigits n.natAbs ∧ valN (Lib.itoa n) = n := by
  by_cases hn : n < 0
  · have e : Lib.itoa n = 45 :: Lib.decDigits n.natAbs := by rw [Lib.itoa, if_pos hn]
    have hb : bodyN (Lib.itoa n) = Lib.decDigits n.natAbs := by rw [e]; rfl
    refine ⟨hb, ?_⟩
    rw [valN, hb, if_pos (by rw [e]; rfl), dec_fold]; omega
  · have e : Lib.itoa n = Lib.decDigits n.natAbs := by rw [Lib.itoa, if_neg hn, show n.toNat = n.natAbs by omega]
    have hh : (Lib.itoa n).head? ≠ some 45 := by
      rw [e]
      cases hd : Lib.decDigits n.natAbs with
      | nil => simp
      | cons c r => simpa using (dec_head hd).2.2
    have hb : bodyN (Lib.itoa n) = Lib.decDigits n.natAbs := by rw [bodyN, if_neg hh, e]
    refine ⟨hb, ?_⟩
    rw [valN, hb, if_neg hh, dec_fold]; omega
theorem fold_lt : ∀ (l : List UInt8) (a : Nat), l.all isD = true → l.foldl digF a < (a + 1) * 10 ^ l.length
  | [], a, _ => by simp
  | c :: r, a, hd => by
    rw [List.all_cons, Bool.and_eq_true] at hd
    have h1 : 48 ≤ c.toNat ∧ c.toNat ≤ 57 := of_decide_eq_true hd.1
    have ih := fold_lt r (digF a c) hd.2
    rw [List.foldl_cons, List.length_cons, Nat.pow_succ]
    refine Nat.lt_of_lt_of_le ih ?_
    rw [Nat.mul_comm (10 ^ r.length) 10, ← Nat.mul_assoc]
    refine Nat.mul_le_mul_right _ ?_
    unfold digF; omega
theorem val_range {bs : List UInt8} (h1 : (bodyN bs).length ≤ 16) (h2 : (bodyN bs).all isD = true) : -10000000000000000 < valN bs ∧ valN bs < 10000000000000000 := by
  have h := fold_lt (bodyN bs) 0 h2
  have hp : (10 : Nat) ^ (bodyN bs).length ≤ 10 ^ 16 := Nat.pow_le_pow_right (by decide) h1
  have h16 : (10 : Nat) ^ 16 = 10000000000000000 := by decide
  rw [valN]; split <;> omega
theorem num_same (bs : List UInt8) : implN bs = numS bs := by
  apply Option.ext
  intro v
  unfold implN numS
  constructor
  · intro h
    split at h
    · rename_i w hw
      split at h
      · rename_i hc
        injection h with h
        subst h
        obtain ⟨b1, b2⟩ := body_itoa w
        rw [trim_body] at hc
        rw [hc.1] at b1 b2
        have hl : 1 ≤ (bodyN bs).length := by rw [b1]; exact List.length_pos_iff.2 (dec_ne _)
        have hd : (bodyN bs).all isD = true := by rw [b1]; exact dec_all _
        rw [b2, if_pos ⟨⟨hl, hc.2⟩, hd, hc.1⟩]
      · cases h
    · cases h
  · intro h
    split at h
    · rename_i hc
      injection h with h
      obtain ⟨⟨_, hl⟩, hd, hi⟩ := hc
      have hr := val_range hl hd
      rw [h] at hi hr
      have ha := atoi_itoa (n := v) (by omega) (by omega)
      rw [hi] at ha
      rw [ha]
      exact if_pos ⟨hi, by rw [trim_body]; exact hl⟩
    · cases h
end Go.Proofs.YtaahlnjldenhpaaDoor
