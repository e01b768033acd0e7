/- Unseal: sealed bytes laid open, as the program and as the specification does it. Conditions: none. -/
import Derived.Test.YtaahlnjldenhpaaLG
import Derived.Test.YtaahlnjldenhpaaLT
import Derived.Test.YtaahlnjldenhpaaLRead
namespace Go.Proofs.Ytaahlnjldenhpaa
open Go.BL Go.RowKit
set_option linter.unusedVariables false
set_option linter.unusedSimpArgs false
set_option maxRecDepth 100000
attribute [local go_sem] byteC
theorem u8_wrapn (n : Nat) : IntKind.u8.wrap (n : Int) = ((UInt8.ofNat n).toNat : Int) := by
  rw [UInt8.toNat_ofNat']
  simp only [IntKind.wrap, IntKind.signed, IntKind.bits]
  simp
def ckBytes (n : Nat) : List UInt8 := [UInt8.ofNat n, UInt8.ofNat (n / 256), UInt8.ofNat (n / 65536), UInt8.ofNat (n / 16777216)]
theorem shr8 (n : Nat) : ((n : Int)).fdiv (2 ^ min (8 : Int).toNat 64) = ((n / 256 : Nat) : Int) := by
  rw [show (2 : Int) ^ min (8 : Int).toNat 64 = 256 by decide, Int.fdiv_eq_ediv_of_nonneg _ (by decide)]; rfl
theorem shr16 (n : Nat) : ((n : Int)).fdiv (2 ^ min (16 : Int).toNat 64) = ((n / 65536 : Nat) : Int) := by
  rw [show (2 : Int) ^ min (16 : Int).toNat 64 = 65536 by decide, Int.fdiv_eq_ediv_of_nonneg _ (by decide)]; rfl
theorem shr24 (n : Nat) : ((n : Int)).fdiv (2 ^ min (24 : Int).toNat 64) = ((n / 16777216 : Nat) : Int) := by
  rw [show (2 : Int) ^ min (24 : Int).toNat 64 = 16777216 by decide, Int.fdiv_eq_ediv_of_nonneg _ (by decide)]; rfl
theorem c_checkBytes (bs : List UInt8) (hn : bs.length ≤ 1000000000000000) (K : AV → AH → Prop) (hk : K (.one (.im ((ckBytes (ckN bs)).map byteC))) []) : ACalls Try.prog 69 [(.one (.im (bs.map byteC)))] [] K := by
  have h8 : (0 : Int) ≤ 8 := by decide
  have h16 : (0 : Int) ≤ 16 := by decide
  have h24 : (0 : Int) ≤ 24 := by decide
  refine acall_c Try.f69.results.toList mixed Try.func69 rfl rfl (by kernel_rfl) ?_
  intro Q hQ hQO
  simp only [go_sem]
  (try simp only [go_sem, b_shr, h8, h16, h24, shr8, shr16, shr24, u8_wrapn]); repeat' (first | (with_reducible refine c_split (fun hb => ?_) (fun hb => ?_) <;> try simp only [go_sem, hb, b_shr, h8, h16, h24, shr8, shr16, shr24, u8_wrapn]) | (with_reducible refine w_split (fun hb => ?_) (fun hb => ?_) <;> try simp only [go_sem, hb, b_shr, h8, h16, h24, shr8, shr16, shr24, u8_wrapn]) | (refine call_c (c_impl_Check bs hn _ ?_) <;> try simp only [go_sem, b_shr, h8, h16, h24, shr8, shr16, shr24, u8_wrapn]) | (with_reducible refine hQ _ _ ?_ <;> simp only [Try.f69, go_sem, b_shr, h8, h16, h24, shr8, shr16, shr24, u8_wrapn]))
  exact hk
/-- Sealed bytes at a place: what they hold, the place behind them, and how they fare. -/
def openS (bs : List UInt8) (at_ : Int) : List UInt8 × Nat × Int := match getNum bs at_ with
  | none => ([], 0, 1)
  | some (n, a) => if 9000 < n then ([], 0, 1) else if bs.length < a + n + 4 then ([], 0, 2) else
    if (bs.drop (a + n)).take 4 = ckBytes (ckN ((bs.drop a).take n)) then ((bs.drop a).take n, a + n + 4, 0) else ([], 0, 3)
def openR (r : List UInt8 × Nat × Int) : AV := .tup [(.one (.im (r.1.map byteC))), (.one (.c (.int .i64 ((r.2.1 : Int))))), (.one (.c (.int .i64 (r.2.2))))]
theorem gnGo_le (bs : List UInt8) (a : Nat) : ∀ (f k x n m : Nat), gnGo bs a f k x = some (n, m) → m ≤ bs.length
  | 0, k, x, n, m, h => by simp [gnGo] at h
  | f + 1, k, x, n, m, h => by
    rw [gnGo] at h
    split at h
    · cases h
    · rename_i d hd
      have hi := (List.getElem?_eq_some_iff.1 hd).1
      split at h
      · split at h
        · cases h
        · cases h; omega
      · exact gnGo_le bs a f (k + 1) _ n m h
theorem getNum_le {bs : List UInt8} {at_ : Int} {n m : Nat} (h : getNum bs at_ = some (n, m)) : m ≤ bs.length := by
  unfold getNum at h
  split at h
  · exact gnGo_le bs _ _ _ _ _ _ h
  · cases h
theorem un_arith {l a n : Nat} (ha : a ≤ l) (hl : l ≤ 1000000000000) (hn : n ≤ 9000) : wrap64 ((l : Int) - (a : Int)) = (l : Int) - (a : Int) ∧ wrap64 ((n : Int) + 4) = (n : Int) + 4 ∧ wrap64 ((a : Int) + (n : Int)) = ((a + n : Nat) : Int) ∧ wrap64 (((a + n : Nat) : Int) + 4) = ((a + n + 4 : Nat) : Int) ∧ decide ((l : Int) - (a : Int) < (n : Int) + 4) = decide (l < a + n + 4) ∧ (a + n + 4 - (a + n)) = 4 ∧ a + n - a = n := by
  refine ⟨by unfold wrap64; omega, by unfold wrap64; omega, by unfold wrap64; omega, by unfold wrap64; omega, ?_, by omega, by omega⟩
  exact decide_eq_decide.2 (by omega)
theorem un_fit {l a n : Nat} (h : ¬ l < a + n + 4) : a + n ≤ l ∧ a + n + 4 ≤ l ∧ a ≤ a + n ∧ a + n ≤ a + n + 4 := by omega
theorem c_impl_Unseal (bs : List UInt8) (at_ : Int) (hn : bs.length ≤ 1000000000000) (K : AV → AH → Prop) (hk : K (openR (openS bs at_)) []) : ACalls Try.prog 47 [(.one (.im (bs.map byteC))), (.one (.c (.int .i64 (at_))))] [] K := by
  have hn1 : bs.length ≤ 1000000000000000 := by omega
  refine acall_c Try.f47.results.toList mixed Try.func47 rfl rfl (by kernel_rfl) ?_
  intro Q hQ hQO
  simp only [go_sem]
  refine call_c (c_impl_GetNum bs at_ hn1 _ ?_)
  cases hg : getNum bs at_ with
  | none =>
    rw [openS, hg] at hk
    simp only [numA, go_sem]
    (try simp only [go_sem]); repeat' (first | (with_reducible refine c_split (fun hb => ?_) (fun hb => ?_) <;> try simp only [go_sem, hb]) | (with_reducible refine w_split (fun hb => ?_) (fun hb => ?_) <;> try simp only [go_sem, hb]) | (with_reducible refine tw_split (fun hb => ?_) (fun hb => ?_) <;> try simp only [go_sem, hb]) | (with_reducible refine draw_at 0 36 (by with_unfolding_all rfl) [(0, true, true), (1, true, true), (2, true, true), (3, true, true), (5, true, true), (6, true, true), (7, true, true), (8, true, true), (9, true, true), (4, false, true), (10, false, true), (11, false, true)] (by kernel_rfl) ?_ <;> try simp only [go_sem]) | (with_reducible refine hQ _ _ ?_ <;> simp only [Try.f47, go_sem]))
    exact hk
  | some r =>
    obtain ⟨n, a⟩ := r
    have ha := getNum_le hg
    rw [openS, hg] at hk
    simp only at hk
    simp only [numA, go_sem]
    by_cases h1 : 9000 < n
    · rw [if_pos h1] at hk
      have h1' : decide ((9000 : Int) < (n : Int)) = true := decide_eq_true (Int.ofNat_lt.2 h1)
      (try simp only [go_sem, h1']); repeat' (first | (with_reducible refine c_split (fun hb => ?_) (fun hb => ?_) <;> try simp only [go_sem, hb, h1']) | (with_reducible refine w_split (fun hb => ?_) (fun hb => ?_) <;> try simp only [go_sem, hb, h1']) | (with_reducible refine tw_split (fun hb => ?_) (fun hb => ?_) <;> try simp only [go_sem, hb, h1']) | (with_reducible refine draw_at 0 36 (by with_unfolding_all rfl) [(0, true, true), (1, true, true), (2, true, true), (3, true, true), (5, true, true), (6, true, true), (7, true, true), (8, true, true), (9, true, true), (4, false, true), (10, false, true), (11, false, true)] (by kernel_rfl) ?_ <;> try simp only [go_sem, h1']) | (with_reducible refine hQ _ _ ?_ <;> simp only [Try.f47, go_sem, h1']))
      exact hk
    rw [if_neg h1] at hk
    have h1' : decide ((9000 : Int) < (n : Int)) = false := decide_eq_false (fun q => h1 (Int.ofNat_lt.1 q))
    obtain ⟨w1, w2, w3, w4, w5, w6, w7⟩ := un_arith ha hn (Nat.not_lt.1 h1)
    by_cases h2 : bs.length < a + n + 4
    · rw [if_pos h2] at hk
      (try simp only [go_sem, h1', w1, w2, w5, h2]); repeat' (first | (with_reducible refine c_split (fun hb => ?_) (fun hb => ?_) <;> try simp only [go_sem, hb, h1', w1, w2, w5, h2]) | (with_reducible refine w_split (fun hb => ?_) (fun hb => ?_) <;> try simp only [go_sem, hb, h1', w1, w2, w5, h2]) | (with_reducible refine tw_split (fun hb => ?_) (fun hb => ?_) <;> try simp only [go_sem, hb, h1', w1, w2, w5, h2]) | (with_reducible refine draw_at 0 36 (by with_unfolding_all rfl) [(0, true, true), (1, true, true), (2, true, true), (3, true, true), (5, true, true), (6, true, true), (7, true, true), (8, true, true), (9, true, true), (4, false, true), (10, false, true), (11, false, true)] (by kernel_rfl) ?_ <;> try simp only [go_sem, h1', w1, w2, w5, h2]) | (with_reducible refine hQ _ _ ?_ <;> simp only [Try.f47, go_sem, h1', w1, w2, w5, h2]))
      exact hk
    rw [if_neg h2] at hk
    obtain ⟨f1, f2, f3, f4⟩ := un_fit h2
    have hl1 : ((bs.drop a).take n).length ≤ 1000000000000 := by simp; omega
    have hl2 : ((bs.drop a).take n).length ≤ 1000000000000000 := by simp; omega
    (try simp only [go_sem, h1', w1, w2, w3, w4, w5, w6, w7, h2, f1, f2, f3, f4, ← List.map_drop, ← List.map_take]); repeat' (first | (with_reducible refine c_split (fun hb => ?_) (fun hb => ?_) <;> try simp only [go_sem, hb, h1', w1, w2, w3, w4, w5, w6, w7, h2, f1, f2, f3, f4, ← List.map_drop, ← List.map_take]) | (with_reducible refine w_split (fun hb => ?_) (fun hb => ?_) <;> try simp only [go_sem, hb, h1', w1, w2, w3, w4, w5, w6, w7, h2, f1, f2, f3, f4, ← List.map_drop, ← List.map_take]) | (with_reducible refine tw_split (fun hb => ?_) (fun hb => ?_) <;> try simp only [go_sem, hb, h1', w1, w2, w3, w4, w5, w6, w7, h2, f1, f2, f3, f4, ← List.map_drop, ← List.map_take]) | (with_reducible refine draw_at 0 36 (by with_unfolding_all rfl) [(0, true, true), (1, true, true), (2, true, true), (3, true, true), (5, true, true), (6, true, true), (7, true, true), (8, true, true), (9, true, true), (4, false, true), (10, false, true), (11, false, true)] (by kernel_rfl) ?_ <;> try simp only [go_sem, h1', w1, w2, w3, w4, w5, w6, w7, h2, f1, f2, f3, f4, ← List.map_drop, ← List.map_take]) | (refine call_c (c_checkBytes ((bs.drop a).take n) hl2 _ ?_) <;> try simp only [go_sem, h1', w1, w2, w3, w4, w5, w6, w7, h2, f1, f2, f3, f4, ← List.map_drop, ← List.map_take]) | (refine call_c (c_EqualBytes (ckBytes (ckN ((bs.drop a).take n))) ((bs.drop (a + n)).take 4) (Nat.le_of_ble_eq_true rfl) _ ?_) <;> try simp only [go_sem, h1', w1, w2, w3, w4, w5, w6, w7, h2, f1, f2, f3, f4, ← List.map_drop, ← List.map_take]) | (refine call_c (c_CloneBytes ((bs.drop a).take n) hl1 _ ?_) <;> try simp only [go_sem, h1', w1, w2, w3, w4, w5, w6, w7, h2, f1, f2, f3, f4, ← List.map_drop, ← List.map_take]) | (fail))
    · (try simp only [go_sem, w3, w4]); repeat' (first | (with_reducible refine c_split (fun hb => ?_) (fun hb => ?_) <;> try simp only [go_sem, hb, w3, w4]) | (with_reducible refine w_split (fun hb => ?_) (fun hb => ?_) <;> try simp only [go_sem, hb, w3, w4]) | (with_reducible refine tw_split (fun hb => ?_) (fun hb => ?_) <;> try simp only [go_sem, hb, w3, w4]) | (with_reducible refine draw_at 0 36 (by with_unfolding_all rfl) [(0, true, true), (1, true, true), (2, true, true), (3, true, true), (5, true, true), (6, true, true), (7, true, true), (8, true, true), (9, true, true), (4, false, true), (10, false, true), (11, false, true)] (by kernel_rfl) ?_ <;> try simp only [go_sem, w3, w4]) | (with_reducible refine hQ _ _ ?_ <;> simp only [Try.f47, go_sem, w3, w4]))
      have hb' : ¬ ckBytes (ckN ((bs.drop a).take n)) = (bs.drop (a + n)).take 4 := by simpa using hb
      rw [if_neg (fun q => hb' q.symm)] at hk
      exact hk
    · (try simp only [go_sem, w3, w4]); repeat' (first | (with_reducible refine c_split (fun hb => ?_) (fun hb => ?_) <;> try simp only [go_sem, hb, w3, w4]) | (with_reducible refine w_split (fun hb => ?_) (fun hb => ?_) <;> try simp only [go_sem, hb, w3, w4]) | (with_reducible refine tw_split (fun hb => ?_) (fun hb => ?_) <;> try simp only [go_sem, hb, w3, w4]) | (with_reducible refine draw_at 0 36 (by with_unfolding_all rfl) [(0, true, true), (1, true, true), (2, true, true), (3, true, true), (5, true, true), (6, true, true), (7, true, true), (8, true, true), (9, true, true), (4, false, true), (10, false, true), (11, false, true)] (by kernel_rfl) ?_ <;> try simp only [go_sem, w3, w4]) | (with_reducible refine hQ _ _ ?_ <;> simp only [Try.f47, go_sem, w3, w4]))
      have hb' : ckBytes (ckN ((bs.drop a).take n)) = (bs.drop (a + n)).take 4 := by simpa using hb
      rw [if_pos hb'.symm] at hk
      exact hk
theorem ckN_lt (bs : List UInt8) : ckN bs < 4294967296 := by
  have := ck_lt bs bs.length
  unfold ckN
  omega
theorem u8_ofNat_iff (c : UInt8) (n : Nat) : c = UInt8.ofNat n ↔ c.toNat = n % 256 := by
  rw [← UInt8.toNat_inj, UInt8.toNat_ofNat']
theorem ck_eq (N : Nat) (hN : N < 4294967296) (c0 c1 c2 c3 : UInt8) : [c0, c1, c2, c3] = ckBytes N ↔ N = c0.toNat + c1.toNat * 256 + c2.toNat * 65536 + c3.toNat * 16777216 := by
  have h0 := c0.toNat_lt
  have h1 := c1.toNat_lt
  have h2 := c2.toNat_lt
  have h3 := c3.toNat_lt
  simp only [ckBytes, List.cons.injEq, and_true, u8_ofNat_iff]
  generalize c0.toNat = a0 at *
  generalize c1.toNat = a1 at *
  generalize c2.toNat = a2 at *
  generalize c3.toNat = a3 at *
  constructor
  · rintro ⟨e0, e1, e2, e3⟩; omega
  · intro e; refine ⟨?_, ?_, ?_, ?_⟩ <;> omega
theorem shlE8 (c : UInt8) : IntKind.i64.wrap ((c.toNat : Int) * 2 ^ min (8 : Int).toNat 64) = ((c.toNat * 256 : Nat) : Int) := by
  rw [show (2 : Int) ^ min (8 : Int).toNat 64 = 256 by decide, IntKind.wrap_i64]; have := c.toNat_lt; omega
theorem shlE16 (c : UInt8) : IntKind.i64.wrap ((c.toNat : Int) * 2 ^ min (16 : Int).toNat 64) = ((c.toNat * 65536 : Nat) : Int) := by
  rw [show (2 : Int) ^ min (16 : Int).toNat 64 = 65536 by decide, IntKind.wrap_i64]; have := c.toNat_lt; omega
theorem shlE24 (c : UInt8) : IntKind.i64.wrap ((c.toNat : Int) * 2 ^ min (24 : Int).toNat 64) = ((c.toNat * 16777216 : Nat) : Int) := by
  rw [show (2 : Int) ^ min (24 : Int).toNat 64 = 16777216 by decide, IntKind.wrap_i64]; have := c.toNat_lt; omega
theorem sum4 (c0 c1 c2 c3 : UInt8) : wrap64 ((c0.toNat : Int) + ((c1.toNat * 256 : Nat) : Int)) = ((c0.toNat + c1.toNat * 256 : Nat) : Int) ∧ wrap64 (((c0.toNat + c1.toNat * 256 : Nat) : Int) + ((c2.toNat * 65536 : Nat) : Int)) = ((c0.toNat + c1.toNat * 256 + c2.toNat * 65536 : Nat) : Int) ∧
    wrap64 (((c0.toNat + c1.toNat * 256 + c2.toNat * 65536 : Nat) : Int) + ((c3.toNat * 16777216 : Nat) : Int)) = ((c0.toNat + c1.toNat * 256 + c2.toNat * 65536 + c3.toNat * 16777216 : Nat) : Int) := by
  have := c0.toNat_lt; have := c1.toNat_lt; have := c2.toNat_lt; have := c3.toNat_lt
  refine ⟨?_, ?_, ?_⟩ <;> unfold wrap64 <;> omega
theorem c_spec_Unseal (bs : List UInt8) (at_ : Int) (hn : bs.length ≤ 1000000000000) (K : AV → AH → Prop) (hk : K (openR (openS bs at_)) []) : ACalls Try.prog 63 [(.one (.im (bs.map byteC))), (.one (.c (.int .i64 (at_))))] [] K := by
  have hn1 : bs.length ≤ 1000000000000000 := by omega
  refine acall_c Try.f63.results.toList mixed Try.func63 rfl rfl (by kernel_rfl) ?_
  intro Q hQ hQO
  simp only [go_sem]
  refine call_c (c_spec_GetNum bs at_ hn1 _ ?_)
  cases hg : getNum bs at_ with
  | none =>
    rw [openS, hg] at hk
    simp only [numA, go_sem]
    (try simp only [go_sem]); repeat' (first | (with_reducible refine c_split (fun hb => ?_) (fun hb => ?_) <;> try simp only [go_sem, hb]) | (with_reducible refine w_split (fun hb => ?_) (fun hb => ?_) <;> try simp only [go_sem, hb]) | (with_reducible refine tw_split (fun hb => ?_) (fun hb => ?_) <;> try simp only [go_sem, hb]) | (with_reducible refine draw_at 0 51 (by with_unfolding_all rfl) [(0, true, true), (2, true, true), (3, true, true), (4, true, true), (5, true, true), (6, true, false), (7, true, false), (8, true, false), (9, true, false), (10, true, false), (11, true, false), (12, true, false), (13, true, false), (14, true, false), (15, true, false), (16, true, false), (17, true, false), (18, true, false), (19, true, false), (20, true, false), (21, true, false), (22, true, false), (23, true, false), (1, false, false), (24, false, false)] (by kernel_rfl) ?_ <;> try simp only [go_sem]) | (with_reducible refine hQ _ _ ?_ <;> simp only [Try.f63, go_sem]))
    exact hk
  | some r =>
    obtain ⟨n, a⟩ := r
    have ha := getNum_le hg
    rw [openS, hg] at hk
    simp only at hk
    simp only [numA, go_sem]
    by_cases h1 : 9000 < n
    · rw [if_pos h1] at hk
      have h1' : decide ((9000 : Int) < (n : Int)) = true := decide_eq_true (Int.ofNat_lt.2 h1)
      (try simp only [go_sem, h1']); repeat' (first | (with_reducible refine c_split (fun hb => ?_) (fun hb => ?_) <;> try simp only [go_sem, hb, h1']) | (with_reducible refine w_split (fun hb => ?_) (fun hb => ?_) <;> try simp only [go_sem, hb, h1']) | (with_reducible refine tw_split (fun hb => ?_) (fun hb => ?_) <;> try simp only [go_sem, hb, h1']) | (with_reducible refine draw_at 0 51 (by with_unfolding_all rfl) [(0, true, true), (2, true, true), (3, true, true), (4, true, true), (5, true, true), (6, true, false), (7, true, false), (8, true, false), (9, true, false), (10, true, false), (11, true, false), (12, true, false), (13, true, false), (14, true, false), (15, true, false), (16, true, false), (17, true, false), (18, true, false), (19, true, false), (20, true, false), (21, true, false), (22, true, false), (23, true, false), (1, false, false), (24, false, false)] (by kernel_rfl) ?_ <;> try simp only [go_sem, h1']) | (with_reducible refine hQ _ _ ?_ <;> simp only [Try.f63, go_sem, h1']))
      exact hk
    rw [if_neg h1] at hk
    have h1' : decide ((9000 : Int) < (n : Int)) = false := decide_eq_false (fun q => h1 (Int.ofNat_lt.1 q))
    obtain ⟨w1, w2, w3, w4, w5, w6, w7⟩ := un_arith ha hn (Nat.not_lt.1 h1)
    by_cases h2 : bs.length < a + n + 4
    · rw [if_pos h2] at hk
      (try simp only [go_sem, h1', w1, w2, w5, h2]); repeat' (first | (with_reducible refine c_split (fun hb => ?_) (fun hb => ?_) <;> try simp only [go_sem, hb, h1', w1, w2, w5, h2]) | (with_reducible refine w_split (fun hb => ?_) (fun hb => ?_) <;> try simp only [go_sem, hb, h1', w1, w2, w5, h2]) | (with_reducible refine tw_split (fun hb => ?_) (fun hb => ?_) <;> try simp only [go_sem, hb, h1', w1, w2, w5, h2]) | (with_reducible refine draw_at 0 51 (by with_unfolding_all rfl) [(0, true, true), (2, true, true), (3, true, true), (4, true, true), (5, true, true), (6, true, false), (7, true, false), (8, true, false), (9, true, false), (10, true, false), (11, true, false), (12, true, false), (13, true, false), (14, true, false), (15, true, false), (16, true, false), (17, true, false), (18, true, false), (19, true, false), (20, true, false), (21, true, false), (22, true, false), (23, true, false), (1, false, false), (24, false, false)] (by kernel_rfl) ?_ <;> try simp only [go_sem, h1', w1, w2, w5, h2]) | (with_reducible refine hQ _ _ ?_ <;> simp only [Try.f63, go_sem, h1', w1, w2, w5, h2]))
      exact hk
    rw [if_neg h2] at hk
    obtain ⟨f1, f2, f3, f4⟩ := un_fit h2
    have hl2 : ((bs.drop a).take n).length ≤ 1000000000000000 := by simp; omega
    (try simp only [go_sem, h1', w1, w2, w3, w4, w5, w6, w7, h2, f1, f2, f3, f4, ← List.map_drop, ← List.map_take]); repeat' (first | (with_reducible refine c_split (fun hb => ?_) (fun hb => ?_) <;> try simp only [go_sem, hb, h1', w1, w2, w3, w4, w5, w6, w7, h2, f1, f2, f3, f4, ← List.map_drop, ← List.map_take]) | (with_reducible refine w_split (fun hb => ?_) (fun hb => ?_) <;> try simp only [go_sem, hb, h1', w1, w2, w3, w4, w5, w6, w7, h2, f1, f2, f3, f4, ← List.map_drop, ← List.map_take]) | (with_reducible refine tw_split (fun hb => ?_) (fun hb => ?_) <;> try simp only [go_sem, hb, h1', w1, w2, w3, w4, w5, w6, w7, h2, f1, f2, f3, f4, ← List.map_drop, ← List.map_take]) | (with_reducible refine draw_at 0 51 (by with_unfolding_all rfl) [(0, true, true), (2, true, true), (3, true, true), (4, true, true), (5, true, true), (6, true, false), (7, true, false), (8, true, false), (9, true, false), (10, true, false), (11, true, false), (12, true, false), (13, true, false), (14, true, false), (15, true, false), (16, true, false), (17, true, false), (18, true, false), (19, true, false), (20, true, false), (21, true, false), (22, true, false), (23, true, false), (1, false, false), (24, false, false)] (by kernel_rfl) ?_ <;> try simp only [go_sem, h1', w1, w2, w3, w4, w5, w6, w7, h2, f1, f2, f3, f4, ← List.map_drop, ← List.map_take]) | (fail))
    obtain ⟨c0, c1, c2, c3, hc4⟩ : ∃ c0 c1 c2 c3, (bs.drop (a + n)).take 4 = [c0, c1, c2, c3] := by
      have hl : ((bs.drop (a + n)).take 4).length = 4 := by simp; omega
      match h : (bs.drop (a + n)).take 4, hl with
      | [c0, c1, c2, c3], _ => exact ⟨c0, c1, c2, c3, rfl⟩
    have t0 : Int.toNat 0 = 0 := rfl
    have t1 : Int.toNat 1 = 1 := rfl
    have t2 : Int.toNat 2 = 2 := rfl
    have t3 : Int.toNat 3 = 3 := rfl
    have p0 : (0 : Int) ≤ 0 := by decide
    have p1 : (0 : Int) ≤ 1 := by decide
    have p2 : (0 : Int) ≤ 2 := by decide
    have p3 : (0 : Int) ≤ 3 := by decide
    have h8 : (0 : Int) ≤ 8 := by decide
    have h16 : (0 : Int) ≤ 16 := by decide
    have h24 : (0 : Int) ≤ 24 := by decide
    obtain ⟨s1, s2, s3⟩ := sum4 c0 c1 c2 c3
    refine ap_end rfl rfl (by simp; omega) ?_
    (try simp only [go_sem, List.take_length, tb_shl, b_shl, h8, h16, h24, shlE8, shlE16, shlE24, s1, s2, s3, t0, t1, t2, t3, p0, p1, p2, p3, w3, w4, w6, w7, f1, f2, f3, f4, hc4, ← List.map_drop, ← List.map_take, u8_wrap]); repeat' (first | (with_reducible refine c_split (fun hb => ?_) (fun hb => ?_) <;> try simp only [go_sem, hb, List.take_length, tb_shl, b_shl, h8, h16, h24, shlE8, shlE16, shlE24, s1, s2, s3, t0, t1, t2, t3, p0, p1, p2, p3, w3, w4, w6, w7, f1, f2, f3, f4, hc4, ← List.map_drop, ← List.map_take, u8_wrap]) | (with_reducible refine w_split (fun hb => ?_) (fun hb => ?_) <;> try simp only [go_sem, hb, List.take_length, tb_shl, b_shl, h8, h16, h24, shlE8, shlE16, shlE24, s1, s2, s3, t0, t1, t2, t3, p0, p1, p2, p3, w3, w4, w6, w7, f1, f2, f3, f4, hc4, ← List.map_drop, ← List.map_take, u8_wrap]) | (with_reducible refine tw_split (fun hb => ?_) (fun hb => ?_) <;> try simp only [go_sem, hb, List.take_length, tb_shl, b_shl, h8, h16, h24, shlE8, shlE16, shlE24, s1, s2, s3, t0, t1, t2, t3, p0, p1, p2, p3, w3, w4, w6, w7, f1, f2, f3, f4, hc4, ← List.map_drop, ← List.map_take, u8_wrap]) | (with_reducible refine draw_at 0 51 (by with_unfolding_all rfl) [(0, true, true), (2, true, true), (3, true, true), (4, true, true), (5, true, true), (6, true, false), (7, true, false), (8, true, false), (9, true, false), (10, true, false), (11, true, false), (12, true, false), (13, true, false), (14, true, false), (15, true, false), (16, true, false), (17, true, false), (18, true, false), (19, true, false), (20, true, false), (21, true, false), (22, true, false), (23, true, false), (1, false, false), (24, false, false)] (by kernel_rfl) ?_ <;> try simp only [go_sem, List.take_length, tb_shl, b_shl, h8, h16, h24, shlE8, shlE16, shlE24, s1, s2, s3, t0, t1, t2, t3, p0, p1, p2, p3, w3, w4, w6, w7, f1, f2, f3, f4, hc4, ← List.map_drop, ← List.map_take, u8_wrap]) | (refine call_c (c_spec_Check ((bs.drop a).take n) hl2 _ ?_) <;> try simp only [go_sem, List.take_length, tb_shl, b_shl, h8, h16, h24, shlE8, shlE16, shlE24, s1, s2, s3, t0, t1, t2, t3, p0, p1, p2, p3, w3, w4, w6, w7, f1, f2, f3, f4, hc4, ← List.map_drop, ← List.map_take, u8_wrap]) | (fail))
    · have hne : ¬ [c0, c1, c2, c3] = ckBytes (ckN ((bs.drop a).take n)) := fun q => by
        have := (ck_eq _ (ckN_lt _) c0 c1 c2 c3).1 q
        rw [this] at hb
        simp at hb
      rw [hc4, if_neg hne] at hk
      (try simp only [go_sem]); repeat' (first | (with_reducible refine c_split (fun hb => ?_) (fun hb => ?_) <;> try simp only [go_sem, hb]) | (with_reducible refine w_split (fun hb => ?_) (fun hb => ?_) <;> try simp only [go_sem, hb]) | (with_reducible refine tw_split (fun hb => ?_) (fun hb => ?_) <;> try simp only [go_sem, hb]) | (with_reducible refine draw_at 0 51 (by with_unfolding_all rfl) [(0, true, true), (2, true, true), (3, true, true), (4, true, true), (5, true, true), (6, true, false), (7, true, false), (8, true, false), (9, true, false), (10, true, false), (11, true, false), (12, true, false), (13, true, false), (14, true, false), (15, true, false), (16, true, false), (17, true, false), (18, true, false), (19, true, false), (20, true, false), (21, true, false), (22, true, false), (23, true, false), (1, false, false), (24, false, false)] (by kernel_rfl) ?_ <;> try simp only [go_sem]) | (with_reducible refine hQ _ _ ?_ <;> simp only [Try.f63, go_sem]))
      exact hk
    · have hq : [c0, c1, c2, c3] = ckBytes (ckN ((bs.drop a).take n)) := (ck_eq _ (ckN_lt _) c0 c1 c2 c3).2 (Int.ofNat_inj.1 (eq_of_beq (by simpa only [Bool.not_eq_false'] using hb)))
      rw [hc4, if_pos hq] at hk
      (try simp only [go_sem, List.take_length, w3, w4]); repeat' (first | (with_reducible refine c_split (fun hb => ?_) (fun hb => ?_) <;> try simp only [go_sem, hb, List.take_length, w3, w4]) | (with_reducible refine w_split (fun hb => ?_) (fun hb => ?_) <;> try simp only [go_sem, hb, List.take_length, w3, w4]) | (with_reducible refine tw_split (fun hb => ?_) (fun hb => ?_) <;> try simp only [go_sem, hb, List.take_length, w3, w4]) | (with_reducible refine draw_at 0 51 (by with_unfolding_all rfl) [(0, true, true), (2, true, true), (3, true, true), (4, true, true), (5, true, true), (6, true, false), (7, true, false), (8, true, false), (9, true, false), (10, true, false), (11, true, false), (12, true, false), (13, true, false), (14, true, false), (15, true, false), (16, true, false), (17, true, false), (18, true, false), (19, true, false), (20, true, false), (21, true, false), (22, true, false), (23, true, false), (1, false, false), (24, false, false)] (by kernel_rfl) ?_ <;> try simp only [go_sem, List.take_length, w3, w4]) | (with_reducible refine hQ _ _ ?_ <;> simp only [Try.f63, go_sem, List.take_length, w3, w4]))
      exact hk
end Go.Proofs.Ytaahlnjldenhpaa
