/- Unseal: sealed bytes laid open, as the program and as the specification does it. Conditions: none. -/
import Derived.Test.YtedkpjaojdkpcaaGreatLG
import Derived.Test.YtedkpjaojdkpcaaGreatLT
import Derived.Test.YtedkpjaojdkpcaaGreatLRead
namespace Go.Proofs.YtedkpjaojdkpcaaGreat
open Go.BL Go.RowKit
set_option linter.unusedVariables false
set_option linter.unusedSimpArgs false
set_option maxRecDepth 100000
attribute [local go_sem] byteC
theorem u8_wrapn (n : Nat) : IntKind.u8.wrap (n : Int) = ((UInt8.ofNat n).toNat : Int) := by
  rw [UInt8.toNat_ofNat']
  simp only [IntKind.wrap, IntKind.signed, IntKind.bits]
  simp
def ckBytes (n : Nat) : List UInt8 := [UInt8.ofNat n, UInt8.ofNat (n / 256), UInt8.ofNat (n / 65536), UInt8.ofNat (n / 16777216)]
theorem shr8 (n : Nat) : ((n : Int)).fdiv (2 ^ min (8 : Int).toNat 64) = ((n / 256 : Nat) : Int) := by
  rw [show (2 : Int) ^ min (8 : Int).toNat 64 = 256 by decide, Int.fdiv_eq_ediv_of_nonneg _ (by decide)]; rfl
theorem shr16 (n : Nat) : ((n : Int)).fdiv (2 ^ min (16 : Int).toNat 64) = ((n / 65536 : Nat) : Int) := by
  rw [show (2 : Int) ^ min (16 : Int).toNat 64 = 65536 by decide, Int.fdiv_eq_ediv_of_nonneg _ (by decide)]; rfl
theorem shr24 (n : Nat) : ((n : Int)).fdiv (2 ^ min (24 : Int).toNat 64) = ((n / 16777216 : Nat) : Int) := by
  rw [show (2 : Int) ^ min (24 : Int).toNat 64 = 16777216 by decide, Int.fdiv_eq_ediv_of_nonneg _ (by decide)]; rfl
theorem c_checkBytes (bs : List UInt8) (hn : bs.length ≤ 1000000000000000) (K : AV → AH → Prop) (hk : K (.one (.im ((ckBytes (ckN bs)).map byteC))) []) : ACalls Tryz.prog 54 [(.one (.im (bs.map byteC)))] [] K := by
  have h8 : (0 : Int) ≤ 8 := by decide
  have h16 : (0 : Int) ≤ 16 := by decide
  have h24 : (0 : Int) ≤ 24 := by decide
  refine acall_c Tryz.f54.results.toList mixed Tryz.func54 rfl rfl (by kernel_rfl) ?_
  intro Q hQ hQO
  simp only [go_sem]
  (try simp only [go_sem, b_shr, h8, h16, h24, shr8, shr16, shr24, u8_wrapn]); repeat' (first | (with_reducible refine c_split (fun hb => ?_) (fun hb => ?_) <;> try simp only [go_sem, hb, b_shr, h8, h16, h24, shr8, shr16, shr24, u8_wrapn]) | (with_reducible refine w_split (fun hb => ?_) (fun hb => ?_) <;> try simp only [go_sem, hb, b_shr, h8, h16, h24, shr8, shr16, shr24, u8_wrapn]) | (refine call_c (c_impl_Check bs hn _ ?_) <;> try simp only [go_sem, b_shr, h8, h16, h24, shr8, shr16, shr24, u8_wrapn]) | (with_reducible refine hQ _ _ ?_ <;> simp only [Tryz.f54, go_sem, b_shr, h8, h16, h24, shr8, shr16, shr24, u8_wrapn]))
  exact hk
/-- Sealed bytes at a place: what they hold, the place behind them, and how they fare. -/
def openS (bs : List UInt8) (at_ : Int) : List UInt8 × Nat × Int := match getNum bs at_ with
  | none => ([], 0, 1)
  | some (n, a) => if 9000 < n then ([], 0, 1) else if bs.length < a + n + 4 then ([], 0, 2) else
    if (bs.drop (a + n)).take 4 = ckBytes (ckN ((bs.drop a).take n)) then ((bs.drop a).take n, a + n + 4, 0) else ([], 0, 3)
def openR (r : List UInt8 × Nat × Int) : AV := .tup [(.one (.im (r.1.map byteC))), (.one (.c (.int .i64 ((r.2.1 : Int))))), (.one (.c (.int .i64 (r.2.2))))]
theorem gnGo_le (bs : List UInt8) (a : Nat) : ∀ (f k x n m : Nat), gnGo bs a f k x = some (n, m) → m ≤ bs.length
  | 0, k, x, n, m, h => by simp [gnGo] at h
  | f + 1, k, x, n, m, h => by
    rw [gnGo] at h
    split at h
    · cases h
    · rename_i d hd
      have hi := (List.getElem?_eq_some_iff.1 hd).1
      split at h
      · split at h
        · cases h
        · cases h; omega
      · exact gnGo_le bs a f (k + 1) _ n m h
theorem getNum_le {bs : List UInt8} {at_ : Int} {n m : Nat} (h : getNum bs at_ = some (n, m)) : m ≤ bs.length := by
  unfold getNum at h
  split at h
  · exact gnGo_le bs _ _ _ _ _ _ h
  · cases h
theorem un_arith {l a n : Nat} (ha : a ≤ l) (hl : l ≤ 1000000000000) (hn : n ≤ 9000) : wrap64 ((l : Int) - (a : Int)) = (l : Int) - (a : Int) ∧ wrap64 ((n : Int) + 4) = (n : Int) + 4 ∧ wrap64 ((a : Int) + (n : Int)) = ((a + n : Nat) : Int) ∧ wrap64 (((a + n : Nat) : Int) + 4) = ((a + n + 4 : Nat) : Int) ∧ decide ((l : Int) - (a : Int) < (n : Int) + 4) = decide (l < a + n + 4) ∧ (a + n + 4 - (a + n)) = 4 ∧ a + n - a = n := by
  refine ⟨by unfold wrap64; omega, by unfold wrap64; omega, by unfold wrap64; omega, by unfold wrap64; omega, ?_, by omega, by omega⟩
  exact decide_eq_decide.2 (by omega)
theorem un_fit {l a n : Nat} (h : ¬ l < a + n + 4) : a + n ≤ l ∧ a + n + 4 ≤ l ∧ a ≤ a + n ∧ a + n ≤ a + n + 4 := by omega
theorem ckN_lt (bs : List UInt8) : ckN bs < 4294967296 := by
  have := ck_lt bs bs.length
  unfold ckN
  omega
theorem u8_ofNat_iff (c : UInt8) (n : Nat) : c = UInt8.ofNat n ↔ c.toNat = n % 256 := by
  rw [← UInt8.toNat_inj, UInt8.toNat_ofNat']
theorem ck_eq (N : Nat) (hN : N < 4294967296) (c0 c1 c2 c3 : UInt8) : [c0, c1, c2, c3] = ckBytes N ↔ N = c0.toNat + c1.toNat * 256 + c2.toNat * 65536 + c3.toNat * 16777216 := by
  have h0 := c0.toNat_lt
  have h1 := c1.toNat_lt
  have h2 := c2.toNat_lt
  have h3 := c3.toNat_lt
  simp only [ckBytes, List.cons.injEq, and_true, u8_ofNat_iff]
  generalize c0.toNat = a0 at *
  generalize c1.toNat = a1 at *
  generalize c2.toNat = a2 at *
  generalize c3.toNat = a3 at *
  constructor
  · rintro ⟨e0, e1, e2, e3⟩; omega
  · intro e; refine ⟨?_, ?_, ?_, ?_⟩ <;> omega
theorem shlE8 (c : UInt8) : IntKind.i64.wrap ((c.toNat : Int) * 2 ^ min (8 : Int).toNat 64) = ((c.toNat * 256 : Nat) : Int) := by
  rw [show (2 : Int) ^ min (8 : Int).toNat 64 = 256 by decide, IntKind.wrap_i64]; have := c.toNat_lt; omega
theorem shlE16 (c : UInt8) : IntKind.i64.wrap ((c.toNat : Int) * 2 ^ min (16 : Int).toNat 64) = ((c.toNat * 65536 : Nat) : Int) := by
  rw [show (2 : Int) ^ min (16 : Int).toNat 64 = 65536 by decide, IntKind.wrap_i64]; have := c.toNat_lt; omega
theorem shlE24 (c : UInt8) : IntKind.i64.wrap ((c.toNat : Int) * 2 ^ min (24 : Int).toNat 64) = ((c.toNat * 16777216 : Nat) : Int) := by
  rw [show (2 : Int) ^ min (24 : Int).toNat 64 = 16777216 by decide, IntKind.wrap_i64]; have := c.toNat_lt; omega
theorem sum4 (c0 c1 c2 c3 : UInt8) : wrap64 ((c0.toNat : Int) + ((c1.toNat * 256 : Nat) : Int)) = ((c0.toNat + c1.toNat * 256 : Nat) : Int) ∧ wrap64 (((c0.toNat + c1.toNat * 256 : Nat) : Int) + ((c2.toNat * 65536 : Nat) : Int)) = ((c0.toNat + c1.toNat * 256 + c2.toNat * 65536 : Nat) : Int) ∧
    wrap64 (((c0.toNat + c1.toNat * 256 + c2.toNat * 65536 : Nat) : Int) + ((c3.toNat * 16777216 : Nat) : Int)) = ((c0.toNat + c1.toNat * 256 + c2.toNat * 65536 + c3.toNat * 16777216 : Nat) : Int) := by
  have := c0.toNat_lt; have := c1.toNat_lt; have := c2.toNat_lt; have := c3.toNat_lt
  refine ⟨?_, ?_, ?_⟩ <;> unfold wrap64 <;> omega
end Go.Proofs.YtedkpjaojdkpcaaGreat
