/- Cur: the cursor of a draw: bytes, numbers below a bound, a pick. Conditions: none. -/
import Derived.Test.YtaahlnjldenhpaaDoorLG
import Derived.Test.YtaahlnjldenhpaaDoorLT
import Derived.Test.YtaahlnjldenhpaaDoorLSeal
import Derived.Test.YtaahlnjldenhpaaDoorLSegs
namespace Go.Proofs.YtaahlnjldenhpaaDoor
open Go.BL Go.RowKit
set_option linter.unusedVariables false
set_option linter.unusedSimpArgs false
set_option maxRecDepth 100000
attribute [local go_sem] byteC
def curC (b : List UInt8) (i : Nat) (hh : Int) : List (List CV) := [[.im (b.map byteC), .c (.int .i64 ((i : Int))), .c (.int .i64 (hh))]]
def curO (b : List UInt8) (i : Nat) (hh : Int) : AO := .own 0 63 3 (some 1) (curC b i hh)
theorem cur_lt (n : Nat) (b : List UInt8) (i : Nat) (hh : Int) : ltO n (curO b i hh) = true := rfl
theorem and255 (a : Int) : ∃ n : Nat, n ≤ 255 ∧ IntKind.i64.wrap (((BitVec.ofInt 64 a &&& BitVec.ofInt 64 255).toNat : Nat) : Int) = (n : Int) := by
  have : (BitVec.ofInt 64 a &&& BitVec.ofInt 64 255).toNat ≤ 255 := by
    rw [BitVec.toNat_and]; exact Nat.le_trans Nat.and_le_right (by decide)
  exact ⟨_, this, wrap_nat64 _ (by omega)⟩
theorem and30 (a : Int) : ∃ n : Nat, n ≤ 1073741823 ∧ IntKind.i64.wrap (((BitVec.ofInt 64 a &&& BitVec.ofInt 64 1073741823).toNat : Nat) : Int) = (n : Int) := by
  have : (BitVec.ofInt 64 a &&& BitVec.ofInt 64 1073741823).toNat ≤ 1073741823 := by
    rw [BitVec.toNat_and]; exact Nat.le_trans Nat.and_le_right (by decide)
  exact ⟨_, this, wrap_nat64 _ (by omega)⟩
theorem tb_xor {P : Program} (t : TypeId) (ki : IntKind) (a b : Int) : tbG P .xor t (.one (.c (.int ki a))) (.one (.c (.int ki b))) = some (.one (.c (.int ki (ki.wrap (BitVec.ofInt ki.bits a ^^^ BitVec.ofInt ki.bits b).toNat))), none) := by simp [tbG, binA, intA]
theorem c0_l1Byte (b : List UInt8) (i : Nat) (hh : Int) (hbl : b.length ≤ 1000000000000) (hi : i ≤ b.length) (K : AV → AH → Prop) (hk : ∀ (i' : Nat) hh' (x : Nat), i' ≤ b.length → x ≤ 255 → K (.one (.c (.int .i64 ((x : Int))))) [curO b i' hh']) : ACalls Tryd.prog 44 [.one (.pt 0 0 0 0)] [curO b i hh] K := by
  have h33 : (0 : Int) ≤ 33 := by decide
  have h45 : (0 : Int) ≤ 45 := by decide
  have hk2 : ∀ (i' : Nat) hh' (v : Int), i' ≤ b.length → (∃ n : Nat, n ≤ 255 ∧ v = (n : Int)) → K (.one (.c (.int .i64 (v)))) [curO b i' hh'] := fun i' hh' v h1 ⟨n, h2, e⟩ => e ▸ hk i' hh' n h1 h2
  refine acall_h Tryd.f44.results.toList mixed Tryd.func44 rfl rfl (by kernel_rfl) ?_
  intro Q hQ hQN
  simp only [go_sem, curO, curC]
  (try simp only [go_sem, tb_shr, tb_xor, tb_and, h33, h45]); repeat' (first | (with_reducible refine c_split (fun hb => ?_) (fun hb => ?_) <;> try simp only [go_sem, hb, tb_shr, tb_xor, tb_and, h33, h45]) | (with_reducible refine w_split (fun hb => ?_) (fun hb => ?_) <;> try simp only [go_sem, hb, tb_shr, tb_xor, tb_and, h33, h45]) | (with_reducible refine tw_split (fun hb => ?_) (fun hb => ?_) <;> try simp only [go_sem, hb, tb_shr, tb_xor, tb_and, h33, h45]) | (with_reducible refine draw_at 0 13 (by with_unfolding_all rfl) [(0, true, true), (1, true, true), (2, true, true), (3, true, true), (4, true, true), (5, false, false), (6, false, false), (7, false, false), (8, false, false), (9, false, false), (10, false, false), (11, false, false), (12, false, true)] (by kernel_rfl) ?_ <;> try simp only [go_sem, tb_shr, tb_xor, tb_and, h33, h45]) | (with_reducible refine draw_at 0 25 (by with_unfolding_all rfl) [(0, true, true), (1, true, true), (2, true, true), (3, true, true), (4, false, false), (5, false, false), (6, false, false), (7, false, false), (8, false, false), (9, false, true)] (by kernel_rfl) ?_ <;> try simp only [go_sem, tb_shr, tb_xor, tb_and, h33, h45]) | (with_reducible refine draw_at 0 35 (by with_unfolding_all rfl) [(0, true, true), (1, true, true), (2, true, true), (3, true, true), (4, true, true), (5, false, false), (6, false, false), (7, false, false), (8, false, false), (9, false, true), (10, false, true), (11, false, true), (12, false, true), (13, false, true), (14, false, true)] (by kernel_rfl) ?_ <;> try simp only [go_sem, tb_shr, tb_xor, tb_and, h33, h45]) | (fail))
  · have hi2 := lt_len hb
    have hg : b[i]? = some b[i] := List.getElem?_eq_getElem hi2
    have hw : wrap64 ((i : Int) + 1) = ((i + 1 : Nat) : Int) := by unfold wrap64; omega
    (try simp only [go_sem, hg, b_and, tb_and, hw]); repeat' (first | (with_reducible refine c_split (fun hb => ?_) (fun hb => ?_) <;> try simp only [go_sem, hb, hg, b_and, tb_and, hw]) | (with_reducible refine w_split (fun hb => ?_) (fun hb => ?_) <;> try simp only [go_sem, hb, hg, b_and, tb_and, hw]) | (with_reducible refine tw_split (fun hb => ?_) (fun hb => ?_) <;> try simp only [go_sem, hb, hg, b_and, tb_and, hw]) | (with_reducible refine draw_at 0 13 (by with_unfolding_all rfl) [(0, true, true), (1, true, true), (2, true, true), (3, true, true), (4, true, true), (5, false, false), (6, false, false), (7, false, false), (8, false, false), (9, false, false), (10, false, false), (11, false, false), (12, false, true)] (by kernel_rfl) ?_ <;> try simp only [go_sem, hg, b_and, tb_and, hw]) | (with_reducible refine draw_at 0 25 (by with_unfolding_all rfl) [(0, true, true), (1, true, true), (2, true, true), (3, true, true), (4, false, false), (5, false, false), (6, false, false), (7, false, false), (8, false, false), (9, false, true)] (by kernel_rfl) ?_ <;> try simp only [go_sem, hg, b_and, tb_and, hw]) | (with_reducible refine draw_at 0 35 (by with_unfolding_all rfl) [(0, true, true), (1, true, true), (2, true, true), (3, true, true), (4, true, true), (5, false, false), (6, false, false), (7, false, false), (8, false, false), (9, false, true), (10, false, true), (11, false, true), (12, false, true), (13, false, true), (14, false, true)] (by kernel_rfl) ?_ <;> try simp only [go_sem, hg, b_and, tb_and, hw]) | (fail))
    refine hQ [] _ _ (GC.now ?_) <;> simp only [Tryd.f44, go_sem, List.nodup_cons, List.nodup_nil, List.mem_cons, List.not_mem_nil, or_false, not_false_eq_true, List.idxOf?_cons, List.idxOf?_nil, Option.map_none, forall_eq, curC]
    refine hk2 (i + 1) _ _ (by omega) ?_
    exact and255 _
  · refine hQ [] _ _ (GC.now ?_) <;> simp only [Tryd.f44, go_sem, List.nodup_cons, List.nodup_nil, List.mem_cons, List.not_mem_nil, or_false, not_false_eq_true, List.idxOf?_cons, List.idxOf?_nil, Option.map_none, forall_eq]
    refine hk2 _ _ _ hi ?_
    exact and255 _
theorem four_bytes {x1 x2 x3 x4 : Nat} (h1 : x1 ≤ 255) (h2 : x2 ≤ 255) (h3 : x3 ≤ 255) (h4 : x4 ≤ 255) : wrap64 (wrap64 (wrap64 (wrap64 ((x1 : Int) * 16777216) + wrap64 ((x2 : Int) * 65536)) + wrap64 ((x3 : Int) * 256)) + (x4 : Int)) = ((x1 * 16777216 + x2 * 65536 + x3 * 256 + x4 : Nat) : Int) := by
  have w1 : wrap64 ((x1 : Int) * 16777216) = (x1 : Int) * 16777216 := wrap_id _ (by omega) (by omega)
  have w2 : wrap64 ((x2 : Int) * 65536) = (x2 : Int) * 65536 := wrap_id _ (by omega) (by omega)
  have w3 : wrap64 ((x3 : Int) * 256) = (x3 : Int) * 256 := wrap_id _ (by omega) (by omega)
  rw [w1, w2, w3, wrap_id ((x1 : Int) * 16777216 + (x2 : Int) * 65536) (by omega) (by omega), wrap_id ((x1 : Int) * 16777216 + (x2 : Int) * 65536 + (x3 : Int) * 256) (by omega) (by omega), wrap_id _ (by omega) (by omega)]
  omega
theorem c0_l1Below (b : List UInt8) (i : Nat) (hh n : Int) (hbl : b.length ≤ 1000000000000) (hi : i ≤ b.length) (K : AV → AH → Prop) (hk : ∀ (i' : Nat) hh' (x : Nat), i' ≤ b.length → ((x : Int) < n ∨ x = 0) → K (.one (.c (.int .i64 ((x : Int))))) [curO b i' hh']) : ACalls Tryd.prog 32 [.one (.pt 0 0 0 0), (.one (.c (.int .i64 (n))))] [curO b i hh] K := by
  refine acall_h Tryd.f32.results.toList mixed Tryd.func32 rfl rfl (by kernel_rfl) ?_
  intro Q hQ hQN
  simp only [go_sem]
  (try simp only [go_sem]); repeat' (first | (with_reducible refine c_split (fun hb => ?_) (fun hb => ?_) <;> try simp only [go_sem, hb]) | (with_reducible refine w_split (fun hb => ?_) (fun hb => ?_) <;> try simp only [go_sem, hb]) | (fail))
  · refine hQ [] _ _ (GC.now ?_) <;> simp only [Tryd.f32, go_sem, List.nodup_cons, List.nodup_nil, List.mem_cons, List.not_mem_nil, or_false, not_false_eq_true, List.idxOf?_cons, List.idxOf?_nil, Option.map_none, forall_eq, cur_lt]
    exact hk _ _ 0 hi (.inr rfl)
  · have hn : 0 < n := by have := of_decide_eq_false ‹decide (n ≤ 0) = false›; omega
    refine call_h (c0_l1Byte b i hh hbl hi _ fun i' hh' x hi' hx => ?_)
    have hne : n ≠ 0 := by omega
    have hm : ((x : Int).tmod n) = ((x % n.toNat : Nat) : Int) := by
      obtain ⟨m, rfl⟩ : ∃ m : Nat, n = (m : Int) := ⟨n.toNat, by omega⟩
      rw [Int.toNat_natCast]; exact (Int.ofNat_tmod x m).symm
    (try simp only [go_sem, b_rem, hne, hm, ne_eq, not_false_eq_true]); repeat' (first | (with_reducible refine c_split (fun hb => ?_) (fun hb => ?_) <;> try simp only [go_sem, hb, b_rem, hne, hm, ne_eq, not_false_eq_true]) | (with_reducible refine w_split (fun hb => ?_) (fun hb => ?_) <;> try simp only [go_sem, hb, b_rem, hne, hm, ne_eq, not_false_eq_true]) | (fail))
    refine hQ [] _ _ (GC.now ?_) <;> simp only [Tryd.f32, go_sem, List.nodup_cons, List.nodup_nil, List.mem_cons, List.not_mem_nil, or_false, not_false_eq_true, List.idxOf?_cons, List.idxOf?_nil, Option.map_none, forall_eq, cur_lt]
    refine hk _ _ _ hi' (.inl ?_)
    have := Nat.mod_lt x (show 0 < n.toNat by omega)
    omega
  · have hn : 0 < n := by have := of_decide_eq_false ‹decide (n ≤ 0) = false›; omega
    refine call_h (c0_l1Byte b i hh hbl hi _ fun i1 h1 x1 hi1 hx1 => ?_)
    (try simp only [go_sem]); repeat' (first | (with_reducible refine c_split (fun hb => ?_) (fun hb => ?_) <;> try simp only [go_sem, hb]) | (with_reducible refine w_split (fun hb => ?_) (fun hb => ?_) <;> try simp only [go_sem, hb]) | (fail))
    refine call_h (c0_l1Byte b i1 h1 hbl hi1 _ fun i2 h2 x2 hi2 hx2 => ?_)
    (try simp only [go_sem]); repeat' (first | (with_reducible refine c_split (fun hb => ?_) (fun hb => ?_) <;> try simp only [go_sem, hb]) | (with_reducible refine w_split (fun hb => ?_) (fun hb => ?_) <;> try simp only [go_sem, hb]) | (fail))
    refine call_h (c0_l1Byte b i2 h2 hbl hi2 _ fun i3 h3 x3 hi3 hx3 => ?_)
    (try simp only [go_sem]); repeat' (first | (with_reducible refine c_split (fun hb => ?_) (fun hb => ?_) <;> try simp only [go_sem, hb]) | (with_reducible refine w_split (fun hb => ?_) (fun hb => ?_) <;> try simp only [go_sem, hb]) | (fail))
    refine call_h (c0_l1Byte b i3 h3 hbl hi3 _ fun i4 h4 x4 hi4 hx4 => ?_)
    have hne : n ≠ 0 := by omega
    have hm : (wrap64 (wrap64 (wrap64 (wrap64 ((x1 : Int) * 16777216) + wrap64 ((x2 : Int) * 65536)) + wrap64 ((x3 : Int) * 256)) + (x4 : Int))).tmod n = (((x1 * 16777216 + x2 * 65536 + x3 * 256 + x4) % n.toNat : Nat) : Int) := by
      obtain ⟨m, rfl⟩ : ∃ m : Nat, n = (m : Int) := ⟨n.toNat, by omega⟩
      have e := four_bytes hx1 hx2 hx3 hx4
      rw [Int.toNat_natCast, e]; exact (Int.ofNat_tmod _ m).symm
    (try simp only [go_sem, b_rem, hne, hm, ne_eq, not_false_eq_true]); repeat' (first | (with_reducible refine c_split (fun hb => ?_) (fun hb => ?_) <;> try simp only [go_sem, hb, b_rem, hne, hm, ne_eq, not_false_eq_true]) | (with_reducible refine w_split (fun hb => ?_) (fun hb => ?_) <;> try simp only [go_sem, hb, b_rem, hne, hm, ne_eq, not_false_eq_true]) | (fail))
    refine hQ [] _ _ (GC.now ?_) <;> simp only [Tryd.f32, go_sem, List.nodup_cons, List.nodup_nil, List.mem_cons, List.not_mem_nil, or_false, not_false_eq_true, List.idxOf?_cons, List.idxOf?_nil, Option.map_none, forall_eq, cur_lt]
    refine hk _ _ _ hi4 (.inl ?_)
    have := Nat.mod_lt (x1 * 16777216 + x2 * 65536 + x3 * 256 + x4) (show 0 < n.toNat by omega)
    omega
theorem c_l1Byte (b : List UInt8) (i : Nat) (hh : Int) (hbl : b.length ≤ 1000000000000) (hi : i ≤ b.length) (h : AH) (l : Nat) (hl : h[l]? = some (curO b i hh)) (K : AV → AH → Prop) (hk : ∀ (i' : Nat) hh' (x : Nat), i' ≤ b.length → x ≤ 255 → K (.one (.c (.int .i64 ((x : Int))))) (h.set l (curO b i' hh'))) : FCalls Tryd.prog 44 [.one (.pt l 0 0 0)] h [l] K :=
  frame1 (args := [.one (.pt 0 0 0 0)]) hl rfl (c0_l1Byte b i hh hbl hi _ fun i' hh' x h1 h2 o' ext e => by cases e; exact (List.append_nil (h.set l (curO b i' hh'))).symm ▸ hk i' hh' x h1 h2)
theorem c_l1Below (b : List UInt8) (i : Nat) (hh n : Int) (hbl : b.length ≤ 1000000000000) (hi : i ≤ b.length) (h : AH) (l : Nat) (hl : h[l]? = some (curO b i hh)) (K : AV → AH → Prop) (hk : ∀ (i' : Nat) hh' (x : Nat), i' ≤ b.length → ((x : Int) < n ∨ x = 0) → K (.one (.c (.int .i64 ((x : Int))))) (h.set l (curO b i' hh'))) : FCalls Tryd.prog 32 [.one (.pt l 0 0 0), (.one (.c (.int .i64 (n))))] h [l] K :=
  frame1 (args := [.one (.pt 0 0 0 0), (.one (.c (.int .i64 (n))))]) hl rfl (c0_l1Below b i hh n hbl hi _ fun i' hh' x h1 h2 o' ext e => by cases e; exact (List.append_nil (h.set l (curO b i' hh'))).symm ▸ hk i' hh' x h1 h2)
theorem c_l1PickInt (b : List UInt8) (i : Nat) (hh : Int) (hbl : b.length ≤ 1000000000000) (hi : i ≤ b.length) (xs : List Int) (hx0 : 0 < xs.length) (hx1 : xs.length ≤ 1000000) (h0 : AH) (l k : Nat) (cap : Option Nat) (hl : h0[l]? = some (curO b i hh)) (hkk : h0[k]? = some (.own 0 3 1 cap (xs.map intC))) (K : AV → AH → Prop) (hk : ∀ (i' : Nat) hh' (v : Int), i' ≤ b.length → v ∈ xs → K (.one (.c (.int .i64 (v)))) (h0.set l (curO b i' hh'))) : ACalls Tryd.prog 31 [.one (.pt l 0 0 0), .one (.sl k 0 0 xs.length)] h0 K := by
  have hlk : l ≠ k := fun e => by subst e; rw [hl] at hkk; simp [curO] at hkk
  have hkk2 : ∀ o, (h0.set l o)[k]? = some (.own 0 3 1 cap (xs.map intC)) := fun o => by rw [List.getElem?_set_ne hlk]; exact hkk
  refine acall_m Tryd.f31.results.toList mixed Tryd.func31 rfl rfl (by kernel_rfl) ?_
  intro hwf Q hQ
  simp only [go_sem, hkk]
  (try simp only [go_sem, hkk]); repeat' (first | (with_reducible refine c_split (fun hb => ?_) (fun hb => ?_) <;> try simp only [go_sem, hb, hkk]) | (with_reducible refine w_split (fun hb => ?_) (fun hb => ?_) <;> try simp only [go_sem, hb, hkk]) | (fail))
  refine call_f _ (c_l1Below b i hh _ hbl hi h0 l hl _ fun i' hh' x hi' hx => ?_)
  have hxl : x < xs.length := by rcases hx with hx | hx; omega; omega
  have hxl2 : (x : Int) < (xs.length : Int) := Int.ofNat_lt.2 hxl
  have hg : xs[x]? = some xs[x] := List.getElem?_eq_getElem hxl
  (try simp only [go_sem, hkk2, hxl2, hg, intC]); repeat' (first | (with_reducible refine c_split (fun hb => ?_) (fun hb => ?_) <;> try simp only [go_sem, hb, hkk2, hxl2, hg, intC]) | (with_reducible refine w_split (fun hb => ?_) (fun hb => ?_) <;> try simp only [go_sem, hb, hkk2, hxl2, hg, intC]) | (fail))
  refine hQ (h0.set l (curO b i' hh')) _ _ ?_; refine GC.now (ret_m (by simp only [go_sem, Tryd.f31, cur_lt]; exact _root_.id rfl) (by simp only [go_sem]) (by simp) (by first | exact hwf | exact wf_set hwf (by simp only [go_sem, cur_lt]) | exact wf_set2 hwf (by simp only [go_sem, cur_lt]) (by simp only [go_sem, cur_lt]) | (simp only [go_sem]; done)) (by first | exact ⟨_, _root_.id rfl⟩ | exact ⟨[], (List.append_nil _).symm⟩) ?_) <;> simp only [go_sem, cur_lt]
  exact hk _ _ _ hi' (List.getElem_mem hxl)
theorem dr_room {out : List UInt8} {j x most : Nat} (h1 : out.length = j) (h2 : j ≤ x) (h3 : x ≤ most) (h4 : most ≤ 100000) (z : List CV) : ((List.map byteC out).length + [z].length) * 1 ≤ 140737488355328 := by rw [List.length_map, List.length_singleton]; omega
theorem dr_lt {j x most : Nat} (h2 : j ≤ x) (h3 : x ≤ most) (h4 : most ≤ 100000) : j < 9223372036854775807 := by omega
theorem c_l1New (b : List UInt8) (hbl : b.length ≤ 1000000000000) (K : AV → AH → Prop) (hk : ∀ hh, K (.one (.pt 0 0 0 0)) [curO b 0 hh]) : ACalls Tryd.prog 30 [(.one (.im (b.map byteC)))] [] K := by
  refine acall_h Tryd.f30.results.toList mixed Tryd.func30 rfl rfl (by kernel_rfl) ?_
  intro Q hQ hQN
  simp only [go_sem]
  (try simp only [go_sem]); repeat' (first | (with_reducible refine c_split (fun hb => ?_) (fun hb => ?_) <;> try simp only [go_sem, hb]) | (with_reducible refine w_split (fun hb => ?_) (fun hb => ?_) <;> try simp only [go_sem, hb]) | (fail))
  refine while_at (α := Nat) (fun j => b.length - j) [0] (fun j f h => f 4 = (.one (.c (.int .i64 ((j : Int))))) ∧ h = [] ∧ j ≤ b.length ∧ ∃ v : Int, f 3 = (.one (.c (.int .i64 (v))))) 0 (GC.now ?_) ?_
  · simp only [go_sem, nc_0, true_and]
    exact ⟨by simp, _, rfl⟩
  · rintro j f h J hA ⟨e4, rfl, hP⟩ hJ
    simp only [go_sem] at hA
    try dsimp only at hJ
    simp only [go_sem, hA, e4]
    obtain ⟨hj, v, e3⟩ := hP
    (try simp only [go_sem, hA, e4, e3]); repeat' (first | (with_reducible refine c_split (fun hb => ?_) (fun hb => ?_) <;> try simp only [go_sem, hb, hA, e4, e3]) | (with_reducible refine w_split (fun hb => ?_) (fun hb => ?_) <;> try simp only [go_sem, hb, hA, e4, e3]) | (fail))
    · have hj2 := lt_len ‹decide ((j : Int) < (b.length : Int)) = true›
      have hg : b[j]? = some b[j] := List.getElem?_eq_getElem hj2
      have hw := wrap_nat j (by omega)
      (try simp only [go_sem, hA, e4, e3, hg, b_and, hw]); repeat' (first | (with_reducible refine c_split (fun hb => ?_) (fun hb => ?_) <;> try simp only [go_sem, hb, hA, e4, e3, hg, b_and, hw]) | (with_reducible refine w_split (fun hb => ?_) (fun hb => ?_) <;> try simp only [go_sem, hb, hA, e4, e3, hg, b_and, hw]) | (fail))
      refine GC.now (hJ (j + 1) _ _ (by exact Nat.sub_lt_sub_left hj2 (Nat.lt_succ_self _)) (by simp only [go_sem, hA, e4]) ⟨?_, ?_, ?_⟩) <;> try simp only [go_sem, hA, e4, hw, e3]
      exact ⟨hj2, _, rfl⟩
    · refine hQ [0] _ _ (GC.now ?_) <;> simp only [Tryd.f30, go_sem, List.nodup_cons, List.nodup_nil, List.mem_cons, List.not_mem_nil, or_false, not_false_eq_true, List.idxOf?_cons, List.idxOf?_nil, Option.map_none, forall_eq]
      exact hk _
    · refine hQ [0] _ _ (GC.now ?_) <;> simp only [Tryd.f30, go_sem, List.nodup_cons, List.nodup_nil, List.mem_cons, List.not_mem_nil, or_false, not_false_eq_true, List.idxOf?_cons, List.idxOf?_nil, Option.map_none, forall_eq]
      exact hk _
theorem f_l1PickInt (b : List UInt8) (i : Nat) (hh : Int) (hbl : b.length ≤ 1000000000000) (hi : i ≤ b.length) (xs : List Int) (hx0 : 0 < xs.length) (hx1 : xs.length ≤ 1000000) (h0 : AH) (l k : Nat) (cap : Option Nat) (hl : h0[l]? = some (curO b i hh)) (hkk : h0[k]? = some (.own 0 3 1 cap (xs.map intC))) (K : AV → AH → Prop) (hk : ∀ (i' : Nat) hh' (v : Int), i' ≤ b.length → v ∈ xs → K (.one (.c (.int .i64 (v)))) (h0.set l (curO b i' hh'))) : FCalls Tryd.prog 31 [.one (.pt l 0 0 0), .one (.sl k 0 0 xs.length)] h0 [l, k] K := by
  have hlk : l ≠ k := fun e => by subst e; rw [hl] at hkk; simp [curO] at hkk
  have hcl : clO (.own 0 3 1 cap (xs.map intC)) = true := by
    simp only [clO, List.all_eq_true]
    intro e he
    obtain ⟨x, _, rfl⟩ := List.mem_map.1 he
    intro y hy
    rw [List.mem_singleton.1 hy]; rfl
  refine frameL (ls := [l, k]) (hs := [curO b i hh, .own 0 3 1 cap (xs.map intC)]) (args := [.one (.pt 0 0 0 0), .one (.sl 1 0 0 xs.length)]) (by simp [hlk]) rfl (fun j m hj => ?_) (by rw [List.all_cons, List.all_cons, hcl]; rfl) (c_l1PickInt b i hh hbl hi xs hx0 hx1 _ 0 1 cap rfl rfl _ fun i' hh' v h1 h2 os ext e ho => ?_)
  · rcases j with _ | _ | j
    · simp at hj; subst hj; exact hl
    · simp at hj; subst hj; exact hkk
    · simp at hj
  · have e1 : rnFO (rhoL [l, k] h0.length) (AO.own 0 3 1 cap (xs.map intC)) = .own 0 3 1 cap (xs.map intC) := by
      simp only [rnFO, List.map_map]
      congr 1
    match os, ho with
    | [o1, o2], _ =>
      simp only [List.set_cons_zero, List.cons_append, List.nil_append, List.cons.injEq] at e
      obtain ⟨rfl, rfl, rfl⟩ := e
      simp only [List.map_cons, List.map_nil, e1, plug, List.append_nil]
      have hs : (h0.set l (curO b i' hh'))[k]? = some (.own 0 3 1 cap (xs.map intC)) := by rw [List.getElem?_set_ne hlk]; exact hkk
      have := set_same hs
      have e2 : rnFO (rhoL [l, k] h0.length) (curO b i' hh') = curO b i' hh' := rfl
      rw [e2, this]
      exact hk i' hh' v h1 h2
end Go.Proofs.YtaahlnjldenhpaaDoor
