/- Walks of functions of the program and the laws they rest on (6 of 6). Conditions: none. -/
import Derived.Shelf.Bits.Mul64
import Derived.Shelf.Small.Bits
import Derived.Shelf.Lay
import Derived.Lib.ItoaNum
import Derived.Deep.Strs
import Derived.Deep.Slices
import Derived.SizedLaws
import Derived.Lib.SmallJoins
import Derived.ChangeShapes
import Derived.WideShapes
import Derived.Test.YtkndmncgohmjmaaGreatM5
section
namespace Go.Proofs.YtkndmncgohmjmaaGreat
open Go.BL Go.RowKit
set_option linter.unusedVariables false
set_option linter.unusedSimpArgs false
set_option maxRecDepth 100000
attribute [local go_sem] lotC
open Go.Sort
theorem s_SortFunc (d : Array Lot) (n : Nat) (e : d.size = n) (g : Nat) (cap : Option Nat) (hn : n ≤ 1000) (K : AV → AH → Prop) (hk : ∀ R, PermIn 0 n d R → SortedIn lotLt 0 n R → K (.tup []) [arrO g cap R]) : ACalls Tryz.prog 265 [.one (.sl 0 g 0 n), .one (.clo 251 [])] [arrO g cap d] K := by
  have hu := u_wrap (n := n) (by omega)
  have hb := bl_le hn
  have c_P := s_pdq n d n e g cap 0 n (bitsLen n) (Nat.le_refl _) (Nat.zero_le _) (Nat.le_refl _) hn (by omega) (Or.inl rfl)
  simp only [nc_0] at c_P
  refine acall_h Tryz.f265.results.toList mixed Tryz.func265 rfl rfl (by kernel_rfl) ?_
  intro Q hQ hQN
  simp only [go_sem, arrO]
  (try simp only [go_sem, hu]); repeat' (first | (with_reducible first | refine c_split ?_ ?_ | refine w_split ?_ ?_) <;> intro hb <;> try simp only [go_sem, hb, hu] | refine call_c (c_Len n hn _ ?_) <;> try simp only [go_sem, hu] | fail)
  refine call_h (c_P _ (fun R p s => ?_))
  simp only [arrO]
  (try simp only [go_sem]); repeat' (first | (with_reducible first | refine c_split ?_ ?_ | refine w_split ?_ ?_) <;> intro hb <;> try simp only [go_sem, hb] | fail)
  refine hQN [] _ _ (GC.now ?_) <;> simp only [Tryz.f265, go_sem, List.nodup_cons, List.nodup_nil, List.mem_cons, List.not_mem_nil, or_false, not_false_eq_true, List.idxOf?_cons, List.idxOf?_nil, Option.map_none, forall_eq]
  exact hk R p s
theorem arr_cl (d : Array Lot) : (d.toList.map lotC).all (fun e => e.all clB) = true := by
  simp only [List.all_eq_true]
  intro e he
  obtain ⟨x, _, rfl⟩ := List.mem_map.1 he
  intro y hy
  cases x
  simp only [lotC, List.mem_cons, List.not_mem_nil, or_false] at hy
  rcases hy with rfl | rfl | rfl | rfl | rfl <;> rfl
theorem arr_rn (ρ : Nat → Nat) (g : Nat) (cap : Option Nat) (d : Array Lot) : rnFO ρ (arrO g cap d) = arrO g cap d := by
  simp only [arrO, rnFO, List.map_map]
  congr 1
theorem f_SortFunc (d : Array Lot) (n : Nat) (e : d.size = n) (g : Nat) (cap : Option Nat) (hn : n ≤ 1000) (h : AH) (l : Nat) (hl : h[l]? = some (arrO g cap d)) (K : AV → AH → Prop) (hk : ∀ R, PermIn 0 n d R → SortedIn lotLt 0 n R → K (.tup []) (h.set l (arrO g cap R))) : FCalls Tryz.prog 265 [.one (.sl l g 0 n), .one (.clo 251 [])] h [l] K :=
  frame1 (args := [.one (.sl 0 g 0 n), .one (.clo 251 [])]) hl (arr_cl d) (s_SortFunc d n e g cap hn _ (fun R p s o' ext e => by
    cases e
    simp only [arr_rn, List.map_nil, List.append_nil]
    exact hk R p s))
theorem c_withLots1 (x : Lot) (a n : Int) (h0 : AH) (c1 c2 : Nat) (hc1 : h0[c1]? = some (.own 0 3 1 (some 1) [[.c (.int .i64 (a))]])) (hc2 : h0[c2]? = some (.own 0 3 1 (some 1) [[.c (.int .i64 (n))]])) (K : AV → AH → Prop) (hk : K (.one (.c (.bool (lotIs a n x)))) h0) : ACalls Tryz.prog 264 [.agg (lotC x), .one (.pt c1 0 0 0), .one (.pt c2 0 0 0)] h0 K := by
  refine acall_m Tryz.f264.results.toList mixed Tryz.func264 rfl rfl (by kernel_rfl) ?_
  intro hwf Q hQ
  simp only [go_sem, fun a => h_old a hc1, fun a => h_old a hc2]
  (try simp only [go_sem, fun a => h_old a hc1, fun a => h_old a hc2]); repeat' (first | (with_reducible first | refine c_split ?_ ?_ | refine w_split ?_ ?_) <;> intro hb <;> try simp only [go_sem, hb, fun a => h_old a hc1, fun a => h_old a hc2] | refine call_c (c_isLot x a n _ ?_) <;> try simp only [go_sem, fun a => h_old a hc1, fun a => h_old a hc2] | fail)
  refine hQ (h0) _ _ ?_; refine GC.now (ret_m (by simp only [go_sem, Tryz.f264]; exact _root_.id rfl) (by simp only [go_sem]) (by simp) (by first | exact hwf | exact wf_set hwf (by simp only [go_sem]) | exact wf_set2 hwf (by simp only [go_sem]) (by simp only [go_sem]) | (simp only [go_sem]; done)) (by first | exact ⟨_, _root_.id rfl⟩ | exact ⟨[], (List.append_nil _).symm⟩) ?_) <;> simp only [go_sem]
  exact hk
theorem wl_room {a b : Nat} (h1 : a ≤ 1000) (h2 : b ≤ 1000) : (a + b) * 40 ≤ 140737488355328 := by omega
theorem c_withLots (xs own : List Lot) (a n : Int) (hn : (restL xs a n).length + own.length ≤ 1000) (hn2 : xs.length ≤ 1000) (K : AV → AH → Prop) (hk : ∀ R : Array Lot, PermIn 0 (restL xs a n ++ own).length (restL xs a n ++ own).toArray R → SortedIn lotLt 0 R.size R → K (.one (.sl 0 0 0 R.size)) [.own 0 112 5 none (R.toList.map lotC)]) : ACalls Tryz.prog 177 [(.one (.im (xs.map lotC))), (.one (.c (.int .i64 (a)))), (.one (.c (.int .i64 (n)))), (.one (.im (own.map lotC)))] [] K := by
  have hn9 : xs.length ≤ 1000000000 := by omega
  have hrl : (restL xs a n).length ≤ 1000 := by omega
  have hol : own.length ≤ 1000 := by omega
  refine acall_c Tryz.f177.results.toList mixed Tryz.func177 rfl rfl (by kernel_rfl) ?_
  intro Q hQ hQO
  simp only [go_sem]
  (try simp only [go_sem]); repeat' (first | (with_reducible first | refine c_split ?_ ?_ | refine w_split ?_ ?_) <;> intro hb <;> try simp only [go_sem, hb] | refine call_c (c_CloneLot xs hn9 _ (fun cap => ?_)) <;> try simp only [go_sem] | fail)
  refine call_h (c_DeleteFuncLot xs 2 0 cap _ _ (fun x => lotIs a n x) _ rfl hn9 ?_ (by decide) rfl _ (fun rest => ?_))
  · intro h1 x K' hcap hk'
    refine .inr (.inl ⟨rfl, c_withLots1 x a n h1 0 1 ?_ ?_ _ hk'⟩)
    · exact (hcap 0 (by simp)).trans rfl
    · exact (hcap 1 (by simp)).trans rfl
  · have hff : (xs.filter fun x => !lotIs a n x) = restL xs a n := rfl
    simp only [hff]
    generalize restL xs a n = r at *
    simp only [go_sem]
    (try simp only [go_sem]); repeat' (first | (with_reducible first | refine c_split ?_ ?_ | refine w_split ?_ ?_) <;> intro hb <;> try simp only [go_sem, hb] | fail)
    have hle : r.length ≤ ((r ++ rest).map lotC).length := by simp
    have htk : ((r ++ rest).map lotC).take r.length = r.map lotC := by rw [← List.map_take, List.take_left]
    refine ap_cut rfl hle (by rw [List.length_map]; exact wl_room hrl hol) ?_
    have hma : r.map lotC ++ own.map lotC = ((r ++ own).toArray).toList.map lotC := by simp
    have hsz : ((r ++ own).toArray).size = r.length + own.length := by simp
    have hlt2 : r.length + (own.map lotC).length = r.length + own.length := by rw [List.length_map]
    (try simp only [go_sem, htk, hma, hlt2, List.length_map]); repeat' (first | (with_reducible first | refine c_split ?_ ?_ | refine w_split ?_ ?_) <;> intro hb <;> try simp only [go_sem, hb, htk, hma, hlt2, List.length_map] | fail)
    refine call_f _ (f_SortFunc (r ++ own).toArray (r.length + own.length) hsz 1 none hn _ 2 rfl _ (fun R p s => ?_))
    have hRs : R.size = r.length + own.length := by rw [p.1]; exact hsz
    simp only [arrO]
    (try simp only [go_sem]); repeat' (first | (with_reducible first | refine c_split ?_ ?_ | refine w_split ?_ ?_) <;> intro hb <;> try simp only [go_sem, hb] | fail)
    have htR : (List.map lotC R.toList).take (r.length + own.length) = R.toList.map lotC := List.take_of_length_le (by simp [hRs])
    refine hQO [2] _ _ (GC.now ?_) <;> simp only [Tryz.f177, go_sem, List.nodup_cons, List.nodup_nil, List.mem_cons, List.not_mem_nil, or_false, not_false_eq_true, List.idxOf?_cons, List.idxOf?_nil, Option.map_none, htR]
    rw [← hRs]
    exact hk R (by rw [List.length_append]; exact p) (by rw [hRs]; exact s)
end Go.Proofs.YtkndmncgohmjmaaGreat
end
section
namespace Go.Proofs.YtkndmncgohmjmaaGreat
open Go.BL Go.RowKit
set_option linter.unusedVariables false
set_option linter.unusedSimpArgs false
set_option maxRecDepth 100000
theorem kn_exp (q y1 y0 : Nat) : q * (y1 * 4294967296 + y0) = q * y1 * 4294967296 + q * y0 := by rw [Nat.mul_add, Nat.mul_assoc]
theorem kn_lt {y1 y0 U V : Nat} (hU : U < y1 * 4294967296 + y0) (hV : V < 4294967296) : (U * 4294967296 + V) / (y1 * 4294967296 + y0) < 4294967296 := Nat.div_lt_of_lt_mul (by omega)
theorem kn_ge {y1 y0 U V : Nat} (h1 : 0 < y1) (hV : V < 4294967296) : (U * 4294967296 + V) / (y1 * 4294967296 + y0) ≤ U / y1 := by
  rw [Nat.le_div_iff_mul_le h1]
  have h := Nat.div_mul_le_self (U * 4294967296 + V) (y1 * 4294967296 + y0)
  rw [kn_exp] at h
  omega
theorem kn_dec {y1 y0 U V q rh : Nat} (h1 : 0 < y1) (hP : q * y1 + rh = U) (h : 4294967296 * rh + V < q * y0) : (U * 4294967296 + V) / (y1 * 4294967296 + y0) < q := by
  rw [Nat.div_lt_iff_lt_mul (by omega), kn_exp]
  omega
theorem kn_fin {y1 y0 U V q rh : Nat} (h1 : 0 < y1) (hP : q * y1 + rh = U) (h : q * y0 ≤ 4294967296 * rh + V) : q ≤ (U * 4294967296 + V) / (y1 * 4294967296 + y0) := by
  rw [Nat.le_div_iff_mul_le (by omega), kn_exp]
  omega
theorem kn_fin2 {y1 y0 U V q rh : Nat} (h1 : 0 < y1) (hP : q * y1 + rh = U) (hU : U < y1 * 4294967296 + y0) (h0 : y0 < 4294967296) (hr : 4294967296 ≤ rh) : q ≤ (U * 4294967296 + V) / (y1 * 4294967296 + y0) := by
  have hq : q < 4294967296 := Nat.lt_of_not_le fun hc => by
    have := Nat.mul_le_mul_right y1 hc
    omega
  refine kn_fin h1 hP ?_
  have := Nat.mul_le_mul (Nat.le_of_lt hq) (Nat.le_of_lt h0)
  omega
def KnI (y1 y0 U V q rh : Nat) : Prop := (U * 4294967296 + V) / (y1 * 4294967296 + y0) ≤ q ∧ q * y1 + rh = U ∧ rh < 4294967296
theorem kn_start {y1 y0 U V : Nat} (h1 : 0 < y1) (h1b : y1 ≤ 4294967296) (hV : V < 4294967296) : KnI y1 y0 U V (U / y1) (U - U / y1 * y1) := by
  have h := Nat.div_add_mod U y1
  have hm := Nat.mod_lt U h1
  rw [Nat.mul_comm] at h
  exact ⟨kn_ge h1 hV, by omega, by omega⟩
theorem kn_next {y1 y0 U V q rh : Nat} (h1 : 0 < y1) (hU : U < y1 * 4294967296 + y0) (hV : V < 4294967296) (h : KnI y1 y0 U V q rh) (hc : 4294967296 ≤ q ∨ 4294967296 * rh + V < q * y0) :
    0 < q ∧ (U * 4294967296 + V) / (y1 * 4294967296 + y0) ≤ q - 1 ∧ (q - 1) * y1 + (rh + y1) = U := by
  obtain ⟨a1, a2, a3⟩ := h
  have hl : (U * 4294967296 + V) / (y1 * 4294967296 + y0) < q := by
    rcases hc with hc | hc
    · exact Nat.lt_of_lt_of_le (kn_lt hU hV) hc
    · exact kn_dec h1 a2 hc
  have hq : 0 < q := Nat.lt_of_le_of_lt (Nat.zero_le _) hl
  refine ⟨hq, by omega, ?_⟩
  obtain ⟨k, rfl⟩ : ∃ k, q = k + 1 := ⟨q - 1, by omega⟩
  rw [Nat.add_sub_cancel]
  rw [Nat.succ_mul] at a2
  omega
theorem kn_stop {y1 y0 U V q rh : Nat} (h1 : 0 < y1) (h : KnI y1 y0 U V q rh) (hc : ¬ (4294967296 * rh + V < q * y0)) : q = (U * 4294967296 + V) / (y1 * 4294967296 + y0) :=
  Nat.le_antisymm (kn_fin h1 h.2.1 (by omega)) h.1
theorem kn_break {y1 y0 U V q rh : Nat} (h1 : 0 < y1) (hU : U < y1 * 4294967296 + y0) (h0 : y0 < 4294967296) (hq : (U * 4294967296 + V) / (y1 * 4294967296 + y0) ≤ q) (hP : q * y1 + rh = U) (hr : 4294967296 ≤ rh) : q = (U * 4294967296 + V) / (y1 * 4294967296 + y0) :=
  Nat.le_antisymm (kn_fin2 h1 hP hU h0 hr) hq
structure KnN (hi lo y L M U W : Nat) : Prop where
  hM : L * M = 18446744073709551616
  hU : U = hi * L + lo / M
  hW : W = lo * L % 18446744073709551616
  hy : hi < y
  hl : lo < 18446744073709551616
theorem KnN.sum {hi lo y L M U W : Nat} (h : KnN hi lo y L M U W) : (hi * 18446744073709551616 + lo) * L = U * 18446744073709551616 + W := by
  have hL : 0 < L := Nat.pos_of_ne_zero fun q => by have := h.hM; rw [q, Nat.zero_mul] at this; omega
  have e : lo * L / 18446744073709551616 = lo / M := by rw [← h.hM, Nat.mul_comm L M, Nat.mul_div_mul_right _ _ hL]
  have d := Nat.div_add_mod (lo * L) 18446744073709551616
  rw [e] at d
  rw [h.hU, h.hW, Nat.add_mul, Nat.add_mul, Nat.mul_right_comm hi _ L]
  omega
theorem KnN.lt {hi lo y L M U W : Nat} (h : KnN hi lo y L M U W) : U < y * L ∧ W < 18446744073709551616 := by
  have hL : 0 < L := Nat.pos_of_ne_zero fun q => by have := h.hM; rw [q, Nat.zero_mul] at this; omega
  have hW : W < 18446744073709551616 := by rw [h.hW]; exact Nat.mod_lt _ (by decide)
  refine ⟨?_, hW⟩
  have hs := h.sum
  have h1 : (hi * 18446744073709551616 + lo) * L < y * 18446744073709551616 * L := Nat.mul_lt_mul_of_pos_right (by have := h.hy; have := h.hl; omega) hL
  rw [hs, Nat.mul_right_comm] at h1
  omega
theorem kn_all {N y L Y U V1 V0 q1 u q0 : Nat} (hL : 0 < L) (hY : Y = y * L) (hy : 0 < Y) (hN : N * L = U * 18446744073709551616 + (V1 * 4294967296 + V0)) (hq1 : q1 = (U * 4294967296 + V1) / Y) (hu : u = (U * 4294967296 + V1) % Y) (hq0 : q0 = (u * 4294967296 + V0) / Y) :
    q1 * 4294967296 + q0 = N / y ∧ (u * 4294967296 + V0) % Y / L = N % y := by
  have d1 := Nat.div_add_mod (U * 4294967296 + V1) Y
  have d0 := Nat.div_add_mod (u * 4294967296 + V0) Y
  rw [← hq1, ← hu] at d1
  rw [← hq0] at d0
  have hr := Nat.mod_lt (u * 4294967296 + V0) hy
  have e : N * L = Y * (q1 * 4294967296 + q0) + (u * 4294967296 + V0) % Y := by
    rw [Nat.mul_add, ← Nat.mul_assoc, hN]
    omega
  have e1 : N * L / Y = q1 * 4294967296 + q0 := by rw [e, Nat.mul_add_div hy, Nat.div_eq_of_lt hr, Nat.add_zero]
  have e2 : N * L % Y = (u * 4294967296 + V0) % Y := by rw [e, Nat.mul_add_mod, Nat.mod_eq_of_lt hr]
  rw [hY, Nat.mul_div_mul_right _ _ hL] at e1
  rw [hY, Nat.mul_mod_mul_right] at e2
  rw [hY]
  refine ⟨e1.symm, ?_⟩
  rw [← e2, Nat.mul_div_cancel _ hL]
end Go.Proofs.YtkndmncgohmjmaaGreat
end
section
namespace Go.Proofs.YtkndmncgohmjmaaGreat
open Go.BL Go.RowKit
set_option linter.unusedVariables false
set_option linter.unusedSimpArgs false
set_option maxRecDepth 100000
theorem d322_0_LDiv64 : DrawL Tryz.prog 0 28 (.on [(0, true, true), (1, true, true), (2, true, true), (3, true, true), (4, true, true), (5, true, true), (6, false, true), (7, false, true)] .nil) := draw_L
open Go.Shelf
shelf_lay Lays.n264 Nm 264 at Tryz as Tryz.laysMul
shelf_lay Lays.n134 Nm 134 at Tryz as Tryz.laysLz
theorem argU2 {φ : Phi} {M : Im} {v u : Value} {us : List Value} (h : VAs φ M [.one (.c v), .one (.c u)] us) : us = [v, u] := by
  obtain ⟨hl, h⟩ := h
  obtain ⟨x, hx, hv⟩ := h 0 _ rfl
  obtain ⟨y, hy, hw⟩ := h 1 _ rfl
  have e1 := VA_c hv
  have e2 := VA_c hw
  subst e1 e2
  match us, hl, hx, hy with
  | [a, b], _, ha, hb => simp at ha hb; rw [ha, hb]
theorem argU1 {φ : Phi} {M : Im} {v : Value} {us : List Value} (h : VAs φ M [.one (.c v)] us) : us = [v] := by
  obtain ⟨hl, h⟩ := h
  obtain ⟨u, hu, hv⟩ := h 0 _ rfl
  have := VA_c hv
  subst this
  match us, hl, hu with
  | [x], _, hu => simp at hu; rw [hu]
theorem bU_add {P : Program} {h : AH} {k : Ko} (t : TypeId) (a b : Int) : biG P .add t (.one (.c (.int .u64 a))) (.one (.c (.int .u64 b))) h k = kr P k (.one (.c (.int .u64 (IntKind.u64.wrap (a + b))))) h := by rw [b_addk]
attribute [local go_sem] bU_add
theorem bU_sub {P : Program} {h : AH} {k : Ko} (t : TypeId) (a b : Int) : biG P .sub t (.one (.c (.int .u64 a))) (.one (.c (.int .u64 b))) h k = kr P k (.one (.c (.int .u64 (IntKind.u64.wrap (a - b))))) h := by rw [b_subk]
attribute [local go_sem] bU_sub
theorem bU_mul {P : Program} {h : AH} {k : Ko} (t : TypeId) (a b : Int) : biG P .mul t (.one (.c (.int .u64 a))) (.one (.c (.int .u64 b))) h k = kr P k (.one (.c (.int .u64 (IntKind.u64.wrap (a * b))))) h := by rw [b_mulk]
attribute [local go_sem] bU_mul
theorem bU_quo {P : Program} {h : AH} {k : Ko} (t : TypeId) (a b : Int) (hb : b ≠ 0) : biG P .quo t (.one (.c (.int .u64 a))) (.one (.c (.int .u64 b))) h k = kr P k (.one (.c (.int .u64 (IntKind.u64.wrap (a.tdiv b))))) h := by rw [b_quok (hb := hb)]
attribute [local go_sem] bU_quo
theorem tbU_quo {P : Program} (t : TypeId) (a b : Int) (hb : b ≠ 0) : tbG P .quo t (.one (.c (.int .u64 a))) (.one (.c (.int .u64 b))) = some (.one (.c (.int .u64 (IntKind.u64.wrap (a.tdiv b)))), none) := by simp [tbG, binA, intA, hb]
attribute [local go_sem] tbU_quo
abbrev U64 (n : Nat) : AV := .one (.c (.int .u64 (n : Int)))
theorem c_Mul64 (x y : Nat) (hx : x < 18446744073709551616) (hy : y < 18446744073709551616) (K : AV → AH → Prop) (hk : K (.tup [U64 (x * y / 18446744073709551616), U64 (x * y % 18446744073709551616)]) []) : ACalls Tryz.prog 321 [U64 x, U64 y] [] K := by
  refine ⟨by kernel_rfl, fun φ M w us R hus => ?_⟩
  have e := argU2 hus
  subst e
  refine (show Calls Tryz.prog 321 #[.int .u64 x, .int .u64 y] w _ from Any.bits_Mul64 Tryz.laysMul x y hx hy w).mono ?_
  rintro e w' ⟨rfl, rfl⟩
  refine ⟨_, _, _, φ, M, rfl, ?_, hk, R, Le.refl _⟩
  refine ⟨_, rfl, rfl, fun j x hx => ?_⟩
  rcases j with _ | _ | j
  · simp at hx; subst hx; exact ⟨_, rfl, rfl⟩
  · simp at hx; subst hx; exact ⟨_, rfl, rfl⟩
  · simp at hx
theorem c_Lz (y : Nat) (h2 : y ≤ 1000000000000000) (K : AV → AH → Prop) (hk : K (.one (.c (.int .i64 (((64 - Lib.bitLen y : Nat) : Int))))) []) : ACalls Tryz.prog 362 [U64 y] [] K := by
  refine ⟨by kernel_rfl, fun φ M w us R hus => ?_⟩
  have e := argU1 hus
  subst e
  have hb := Lib.bitLen_le y 50 (by decide) (by omega)
  refine (show Calls Tryz.prog 362 #[.int .u64 y] w _ from Any.bits_LeadingZeros64 Tryz.laysLz (y : Int) w (by omega) (by omega)).mono ?_
  rintro e w' ⟨rfl, rfl⟩
  refine ⟨_, _, _, φ, M, rfl, ?_, hk, R, Le.refl _⟩
  have e : ((64 : Int) - (Lib.bitLen ((y : Int)).toNat : Int)) = ((64 - Lib.bitLen y : Nat) : Int) := by rw [Int.toNat_natCast]; omega
  rw [e]
  exact mk_c _
theorem lz_facts {y s : Nat} (h1 : 1 ≤ y) (h2 : y ≤ 1000000000000000) (hs : s = 64 - Lib.bitLen y) : 14 ≤ s ∧ s ≤ 63 ∧ 2 ^ s * 2 ^ (64 - s) = 18446744073709551616 ∧ y * 2 ^ s < 18446744073709551616 ∧ 9223372036854775808 ≤ y * 2 ^ s := by
  have hb := Lib.bitLen_le y 50 (by decide) (by omega)
  obtain ⟨b1, b2, b3⟩ := Lib.bitLenAux_bounds 64 y (by omega) (by omega)
  change 1 ≤ Lib.bitLen y at b1
  change 2 ^ (Lib.bitLen y - 1) ≤ y at b2
  change y < 2 ^ Lib.bitLen y at b3
  have e1 : 2 ^ Lib.bitLen y * 2 ^ s = 18446744073709551616 := by rw [← Nat.pow_add, hs, show Lib.bitLen y + (64 - Lib.bitLen y) = 64 by omega]
  have e2 : 2 ^ (Lib.bitLen y - 1) * 2 ^ s = 9223372036854775808 := by rw [← Nat.pow_add, hs, show Lib.bitLen y - 1 + (64 - Lib.bitLen y) = 63 by omega]
  refine ⟨by omega, by omega, by rw [← Nat.pow_add, show s + (64 - s) = 64 by omega], ?_, ?_⟩
  · rw [← e1]; exact Nat.mul_lt_mul_of_pos_right b3 (Nat.two_pow_pos _)
  · rw [← e2]; exact Nat.mul_le_mul_right _ b2
theorem p_cast (s : Nat) (h : s ≤ 64) : ((2 : Int) ^ min ((s : Nat) : Int).toNat 64) = ((2 ^ s : Nat) : Int) := by
  rw [Int.toNat_natCast, Nat.min_eq_left h]
  norm_cast
theorem v_shlS (a s : Nat) (h : s ≤ 64) : IntKind.u64.wrap ((a : Int) * 2 ^ min ((s : Nat) : Int).toNat 64) = ((a * 2 ^ s % 18446744073709551616 : Nat) : Int) := by
  rw [p_cast s h, ← Int.natCast_mul]
  show ((a * 2 ^ s : Nat) : Int) % 18446744073709551616 = _
  omega
theorem v_shrS (a s : Nat) (h : s ≤ 64) : Int.fdiv (a : Int) (2 ^ min ((s : Nat) : Int).toNat 64) = ((a / 2 ^ s : Nat) : Int) := by
  rw [p_cast s h, Int.fdiv_eq_ediv_of_nonneg _ (Int.natCast_nonneg _)]
  exact (Int.natCast_ediv _ _).symm
theorem v_shr32 (a : Nat) : Int.fdiv (a : Int) (2 ^ min (32 : Int).toNat 64) = ((a / 4294967296 : Nat) : Int) := v_shrS a 32 (by decide)
theorem v_mask (a : Nat) (h : a < 18446744073709551616) : IntKind.u64.wrap (((BitVec.ofInt IntKind.u64.bits (a : Int) &&& BitVec.ofInt IntKind.u64.bits 4294967295).toNat : Nat) : Int) = ((a % 4294967296 : Nat) : Int) := by
  have h1 := u_and (x := a) (y := 4294967295) h (by decide)
  have e : a &&& 4294967295 = a % 4294967296 := Nat.and_two_pow_sub_one_eq_mod a 32
  rw [e] at h1
  exact h1
theorem v_or {a b s : Nat} (hb : b < 2 ^ s) (ha : a * 2 ^ s < 18446744073709551616) (hab : a * 2 ^ s + b < 18446744073709551616) : IntKind.u64.wrap (((BitVec.ofInt IntKind.u64.bits ((a * 2 ^ s : Nat) : Int) ||| BitVec.ofInt IntKind.u64.bits (b : Int)).toNat : Nat) : Int) = ((a * 2 ^ s + b : Nat) : Int) := by
  have e : IntKind.u64.bits = 64 := rfl
  rw [e, BitVec.toNat_or, u_bv ha, u_bv (by omega), Nat.mul_comm a, ← Nat.two_pow_add_eq_or_of_lt hb, Nat.mul_comm]
  exact u_wrap hab
theorem dv_quo (a b : Nat) : Int.tdiv (a : Int) (b : Int) = ((a / b : Nat) : Int) := (Int.ofNat_tdiv a b).symm
theorem dv_rem (a b : Nat) : Int.tmod (a : Int) (b : Int) = ((a % b : Nat) : Int) := (Int.ofNat_tmod a b).symm
theorem w_mul (a b : Nat) (h : a * b < 18446744073709551616) : IntKind.u64.wrap ((a : Int) * (b : Int)) = ((a * b : Nat) : Int) := by
  rw [← Int.natCast_mul]; exact u_wrap h
theorem w_mulB (a : Nat) (h : a < 4294967296) : IntKind.u64.wrap ((4294967296 : Int) * (a : Int)) = ((4294967296 * a : Nat) : Int) := w_mul 4294967296 a (by omega)
theorem w_add (a b : Nat) (h : a + b < 18446744073709551616) : IntKind.u64.wrap ((a : Int) + (b : Int)) = ((a + b : Nat) : Int) := by
  rw [← Int.natCast_add]; exact u_wrap h
theorem w_sub (a b : Nat) (h : b ≤ a) (ha : a < 18446744073709551616) : IntKind.u64.wrap ((a : Int) - (b : Int)) = ((a - b : Nat) : Int) := by
  rw [← Int.natCast_sub h]; exact u_wrap (by omega)
theorem w_dec (a : Nat) (h : 0 < a) (ha : a < 18446744073709551616) : IntKind.u64.wrap ((a : Int) - 1) = ((a - 1 : Nat) : Int) := w_sub a 1 h ha
theorem w_rest (U V q Y u : Nat) (h : q * Y + u = U * 4294967296 + V) (hu : u < 18446744073709551616) : IntKind.u64.wrap (IntKind.u64.wrap (IntKind.u64.wrap ((U : Int) * 4294967296) + (V : Int)) - IntKind.u64.wrap ((q : Int) * (Y : Int))) = ((u : Nat) : Int) := by
  rw [← Int.natCast_mul]
  show (((U : Int) * 4294967296 % 18446744073709551616 + (V : Int)) % 18446744073709551616 - ((q * Y : Nat) : Int) % 18446744073709551616) % 18446744073709551616 = _
  omega
theorem w_quoB (q1 q0 : Nat) (h1 : q1 < 4294967296) (h0 : q0 < 4294967296) : IntKind.u64.wrap (IntKind.u64.wrap ((q1 : Int) * 4294967296) + (q0 : Int)) = ((q1 * 4294967296 + q0 : Nat) : Int) := by
  show ((q1 : Int) * 4294967296 % 18446744073709551616 + (q0 : Int)) % 18446744073709551616 = _
  omega
theorem d_le (a b : Nat) : (a ≤ b → decide ((a : Int) ≤ (b : Int)) = true) ∧ (¬ a ≤ b → decide ((a : Int) ≤ (b : Int)) = false) := ⟨fun h => decide_eq_true (by omega), fun h => decide_eq_false (by omega)⟩
theorem d_lt (a b : Nat) : (a < b → decide ((a : Int) < (b : Int)) = true) ∧ (¬ a < b → decide ((a : Int) < (b : Int)) = false) := ⟨fun h => decide_eq_true (by omega), fun h => decide_eq_false (by omega)⟩
theorem d_B (a : Nat) : (4294967296 ≤ a → decide ((4294967296 : Int) ≤ (a : Int)) = true) ∧ (¬ 4294967296 ≤ a → decide ((4294967296 : Int) ≤ (a : Int)) = false) := ⟨fun h => decide_eq_true (by omega), fun h => decide_eq_false (by omega)⟩
structure Dv (y1 y0 Y U V : Nat) : Prop where
  h1 : 0 < y1
  h1b : y1 < 4294967296
  h0 : y0 < 4294967296
  hV : V < 4294967296
  hU : U < y1 * 4294967296 + y0
  hY : Y = y1 * 4294967296 + y0
theorem Dv.u64 {y1 y0 Y U V : Nat} (h : Dv y1 y0 Y U V) : Y < 18446744073709551616 ∧ U < 18446744073709551616 ∧ 0 < Y := by
  obtain ⟨a, b, c, d, e, f⟩ := h
  omega
theorem Dv.loop {y1 y0 Y U V q rh : Nat} (h : Dv y1 y0 Y U V) (hi : KnI y1 y0 U V q rh) : q < 18446744073709551616 ∧ 4294967296 * rh + V < 18446744073709551616 ∧ 4294967296 * rh < 18446744073709551616 ∧ rh + y1 < 18446744073709551616 := by
  obtain ⟨a, b, c, d, e, f⟩ := h
  obtain ⟨i1, i2, i3⟩ := hi
  have : q ≤ q * y1 := Nat.le_mul_of_pos_right q a
  omega
theorem Dv.small {y1 y0 Y U V q : Nat} (h : Dv y1 y0 Y U V) (hq : ¬ 4294967296 ≤ q) : q * y0 < 18446744073709551616 := by
  have h0 := h.h0
  have := Nat.mul_le_mul (show q ≤ 4294967295 by omega) (show y0 ≤ 4294967295 by omega)
  omega
theorem Dv.ends {y1 y0 Y U V q : Nat} (h : Dv y1 y0 Y U V) (hq : q = (U * 4294967296 + V) / (y1 * 4294967296 + y0)) : q = (U * 4294967296 + V) / Y ∧ q < 4294967296 ∧ q * Y + (U * 4294967296 + V) % Y = U * 4294967296 + V ∧ (U * 4294967296 + V) % Y < Y := by
  have hY := h.hY
  have hl := kn_lt h.hU h.hV
  rw [← hY] at hq hl
  have d := Nat.div_add_mod (U * 4294967296 + V) Y
  have m := Nat.mod_lt (U * 4294967296 + V) (h.u64).2.2
  rw [← hq] at d hl
  refine ⟨hq, hl, by rw [Nat.mul_comm]; exact d, m⟩
theorem Dv.startq {y1 y0 Y U V : Nat} (h : Dv y1 y0 Y U V) : KnI y1 y0 U V (U / y1) (U - U / y1 * y1) ∧ U / y1 * y1 ≤ U ∧ U / y1 * y1 < 18446744073709551616 := by
  have hm := Nat.div_mul_le_self U y1
  refine ⟨kn_start h.h1 (Nat.le_of_lt h.h1b) h.hV, hm, by have := h.u64; omega⟩
set_option maxHeartbeats 16000000 in
theorem c_Div64 (hi lo y : Nat) (h1 : 1 ≤ y) (h2 : y ≤ 1000000000000000) (hhy : hi < y) (hlo : lo < 18446744073709551616) (K : AV → AH → Prop) (hk : K (.tup [U64 ((hi * 18446744073709551616 + lo) / y), U64 ((hi * 18446744073709551616 + lo) % y)]) []) : ACalls Tryz.prog 322 [U64 hi, U64 lo, U64 y] [] K := by
  have dy0 : ((y : Int) == 0) = false := beq_eq_false_iff_ne.2 (by omega)
  have dyh : decide ((y : Int) ≤ (hi : Int)) = false := decide_eq_false (by omega)
  have hy0 : (y : Int) ≠ 0 := by omega
  by_cases hz : hi = 0
  · subst hz
    have dz : (((0 : Nat) : Int) == 0) = true := rfl
    have e : 0 * 18446744073709551616 + lo = lo := by omega
    rw [e] at hk
    have w1 := u_wrap (Nat.lt_of_le_of_lt (Nat.div_le_self lo y) hlo)
    refine acall_c Tryz.f322.results.toList mixed Tryz.func322 rfl rfl (by kernel_rfl) ?_
    intro Q hQ hQO
    simp only [go_sem]
    (try simp only [go_sem, dy0, dyh, dz, hy0, ne_eq, not_false_eq_true, b_quo, b_rem, dv_quo, dv_rem, w1]); repeat' (first | (with_reducible first | refine c_split ?_ ?_ | refine w_split ?_ ?_ | refine tw_split ?_ ?_) <;> intro hb <;> try simp only [go_sem, hb, dy0, dyh, dz, hy0, ne_eq, not_false_eq_true, b_quo, b_rem, dv_quo, dv_rem, w1] | with_reducible refine d322_0_LDiv64 (by with_unfolding_all rfl) (by kernel_rfl) ?_ <;> try simp only [go_sem, dy0, dyh, dz, hy0, ne_eq, not_false_eq_true, b_quo, b_rem, dv_quo, dv_rem, w1] | with_reducible refine hQ _ _ ?_ <;> simp only [Tryz.f322, go_sem, dy0, dyh, dz, hy0, ne_eq, not_false_eq_true, b_quo, b_rem, dv_quo, dv_rem, w1])
    exact hk
  have dz : ((hi : Int) == 0) = false := beq_eq_false_iff_ne.2 (by omega)
  obtain ⟨s, hs⟩ : ∃ s, s = 64 - Lib.bitLen y := ⟨_, rfl⟩
  obtain ⟨s1, s2, s3, s4, s5⟩ := lz_facts h1 h2 hs
  have c_L := c_Lz y h2
  rw [← hs] at c_L
  have hN : KnN hi lo y (2 ^ s) (2 ^ (64 - s)) (hi * 2 ^ s + lo / 2 ^ (64 - s)) (lo * 2 ^ s % 18446744073709551616) := ⟨s3, rfl, rfl, hhy, hlo⟩
  have hsum := hN.sum
  obtain ⟨hUY, hW⟩ := hN.lt
  have hU64 : hi * 2 ^ s + lo / 2 ^ (64 - s) < 18446744073709551616 := Nat.lt_trans hUY s4
  have hdl : lo / 2 ^ (64 - s) < 2 ^ s := Nat.div_lt_of_lt_mul (by rw [Nat.mul_comm, s3]; exact hlo)
  have ws := u_wrap (n := s) (by omega)
  have ws2 : IntKind.u64.wrap ((64 : Int) - (s : Int)) = ((64 - s : Nat) : Int) := w_sub 64 s (by omega) (by decide)
  have p1 : (0 : Int) ≤ (s : Int) := by omega
  have p2 : (0 : Int) ≤ ((64 - s : Nat) : Int) := by omega
  have p3 : (0 : Int) ≤ 32 := by decide
  have a1 := v_shlS y s (by omega)
  have a2 := v_shlS hi s (by omega)
  have a3 := v_shlS lo s (by omega)
  have hhs : hi * 2 ^ s < 18446744073709551616 := Nat.lt_of_le_of_lt (Nat.le_add_right _ _) hU64
  rw [Nat.mod_eq_of_lt s4] at a1
  rw [Nat.mod_eq_of_lt hhs] at a2
  have a4 := v_shrS lo (64 - s) (by omega)
  have a5 := v_or hdl hhs hU64
  have m1 := v_mask _ s4
  have m2 := v_mask _ hW
  have r1 := v_shr32 (y * 2 ^ s)
  have r2 := v_shr32 (lo * 2 ^ s % 18446744073709551616)
  have a6 : ∀ v : Nat, Int.fdiv (v : Int) (2 ^ min ((s : Nat) : Int).toNat 64) = ((v / 2 ^ s : Nat) : Int) := fun v => v_shrS v s (by omega)
  have hL : 0 < 2 ^ s := Nat.two_pow_pos s
  simp only [go_sem] at a1 a2 a3 a4 a5 a6 m1 m2 r1 r2
  generalize 2 ^ s = L at *
  generalize 2 ^ (64 - s) = M at *
  obtain ⟨Y, hY⟩ : ∃ Y, Y = y * L := ⟨_, rfl⟩
  rw [← hY] at a1 m1 r1 hUY s4 s5
  obtain ⟨U, hU⟩ : ∃ U, U = hi * L + lo / M := ⟨_, rfl⟩
  rw [← hU] at a5 hsum hUY hU64
  obtain ⟨W, hWe⟩ : ∃ W, W = lo * L % 18446744073709551616 := ⟨_, rfl⟩
  rw [← hWe] at a3 m2 r2 hsum hW
  obtain ⟨y1, hy1⟩ : ∃ q, q = Y / 4294967296 := ⟨_, rfl⟩
  obtain ⟨y0, hy0'⟩ : ∃ q, q = Y % 4294967296 := ⟨_, rfl⟩
  obtain ⟨V1, hV1⟩ : ∃ q, q = W / 4294967296 := ⟨_, rfl⟩
  obtain ⟨V0, hV0⟩ : ∃ q, q = W % 4294967296 := ⟨_, rfl⟩
  rw [← hy1] at r1
  rw [← hy0'] at m1
  rw [← hV1] at r2
  rw [← hV0] at m2
  have D1 : Dv y1 y0 Y U V1 := ⟨by omega, by omega, by omega, by omega, by omega, by omega⟩
  have D0 : ∀ u, u < Y → Dv y1 y0 Y u V0 := fun u hu => ⟨by omega, by omega, by omega, by omega, by omega, by omega⟩
  have hsum2 : (hi * 18446744073709551616 + lo) * L = U * 18446744073709551616 + (V1 * 4294967296 + V0) := by rw [hsum]; omega
  have hYp : 0 < Y := by omega
  have hfin : ∀ q1 u q0, q1 = (U * 4294967296 + V1) / Y → u = (U * 4294967296 + V1) % Y → q0 = (u * 4294967296 + V0) / Y → q1 * 4294967296 + q0 = (hi * 18446744073709551616 + lo) / y ∧ (u * 4294967296 + V0) % Y / L = (hi * 18446744073709551616 + lo) % y := fun q1 u q0 e1 e2 e3 => kn_all hL hY hYp hsum2 e1 e2 e3
  have y1n : (y1 : Int) ≠ 0 := by have := D1.h1; omega
  obtain ⟨ks, ks2, ks3⟩ := D1.startq
  have wq := u_wrap (Nat.lt_of_le_of_lt (Nat.div_le_self U y1) hU64)
  have wm := w_mul _ _ ks3
  have wr := w_sub _ _ ks2 hU64
  clear hsum hsum2 hN hdl hhs hU hWe hy1 hy0' hV1 hV0 hs s1 s2 s3 s4 s5 hhy hlo h1 h2 hUY hW
  refine acall_c Tryz.f322.results.toList mixed Tryz.func322 rfl rfl (by kernel_rfl) ?_
  intro Q hQ hQO
  simp only [go_sem]
  (try simp only [go_sem, dy0, dyh, dz, ws, ws2, p1, p2, p3, a1, a2, a3, a4, a5, m1, m2, r1, r2, y1n, ne_eq, not_false_eq_true, b_quo, dv_quo, wq, wm, wr]); repeat' (first | (with_reducible first | refine c_split ?_ ?_ | refine w_split ?_ ?_ | refine tw_split ?_ ?_) <;> intro hb <;> try simp only [go_sem, hb, dy0, dyh, dz, ws, ws2, p1, p2, p3, a1, a2, a3, a4, a5, m1, m2, r1, r2, y1n, ne_eq, not_false_eq_true, b_quo, dv_quo, wq, wm, wr] | (first | with_reducible refine d322_0_LDiv64 (by with_unfolding_all rfl) (by kernel_rfl) ?_ | refine call_c (c_L _ ?_) | fail) <;> try simp only [go_sem, dy0, dyh, dz, ws, ws2, p1, p2, p3, a1, a2, a3, a4, a5, m1, m2, r1, r2, y1n, ne_eq, not_false_eq_true, b_quo, dv_quo, wq, wm, wr] | fail)
  refine while_at (α := Nat × Nat) (fun ⟨q, rh⟩ => q) [2, 8, 9, 10, 11, 13, 14] (fun ⟨q, rh⟩ f h => f 15 = U64 q ∧ f 16 = U64 rh ∧ h = [] ∧ KnI y1 y0 U V1 q rh) (U / y1, U - U / y1 * y1) (GC.now ?_) ?_
  · simp only [go_sem, nc_0, true_and]
    exact ks
  · rintro ⟨q, rh⟩ f h J hA ⟨e15, e16, rfl, hP⟩ hJ
    simp only [go_sem] at hA
    try dsimp only at hJ
    simp only [go_sem, hA, e15, e16]
    obtain ⟨b1, b2, b3, b4⟩ := Dv.loop D1 hP
    have wB := w_mulB rh hP.2.2
    have wV := w_add (4294967296 * rh) V1 b2
    have wy := w_add rh y1 b4
    by_cases hqB : 4294967296 ≤ q
    · have dq := (d_B q).1 hqB
      obtain ⟨hq0, hle, hPP⟩ := kn_next D1.h1 D1.hU D1.hV hP (.inl hqB)
      have wd := w_dec q hq0 b1
      by_cases hbr : 4294967296 ≤ rh + y1
      · have dbr := (d_B (rh + y1)).1 hbr
        have hend := kn_break D1.h1 D1.hU D1.h0 hle hPP hbr
        obtain ⟨q2, hq2⟩ : ∃ q2, q2 = q - 1 := ⟨_, rfl⟩
        rw [← hq2] at wd hend hle hPP
        obtain ⟨e1, e2, e3, e4⟩ := D1.ends hend
        obtain ⟨u, hu⟩ : ∃ u, u = (U * 4294967296 + V1) % Y := ⟨_, rfl⟩
        rw [← hu] at e3 e4
        have DD := D0 u e4
        have wR := w_rest U V1 q2 Y u e3 (DD.u64).2.1
        obtain ⟨ks, ks2, ks3⟩ := DD.startq
        have wq := u_wrap (Nat.lt_of_le_of_lt (Nat.div_le_self u y1) (DD.u64).2.1)
        have wm := w_mul _ _ ks3
        have wr := w_sub _ _ ks2 (DD.u64).2.1
        have hf := hfin q2 u
        (try simp only [go_sem, hA, e15, e16, dq, wd, wy, dbr, wR, y1n, ne_eq, not_false_eq_true, b_quo, dv_quo, wq, wm, wr]); repeat' (first | (with_reducible first | refine c_split ?_ ?_ | refine w_split ?_ ?_ | refine tw_split ?_ ?_) <;> intro hb <;> try simp only [go_sem, hb, hA, e15, e16, dq, wd, wy, dbr, wR, y1n, ne_eq, not_false_eq_true, b_quo, dv_quo, wq, wm, wr] | with_reducible refine d322_0_LDiv64 (by with_unfolding_all rfl) (by kernel_rfl) ?_ <;> try simp only [go_sem, hA, e15, e16, dq, wd, wy, dbr, wR, y1n, ne_eq, not_false_eq_true, b_quo, dv_quo, wq, wm, wr] | fail)
        clear hJ
        have hA1 := hA
        have f1 := e15
        refine while_at (α := Nat × Nat) (fun ⟨p, rp⟩ => p) [2, 8, 9, 10, 14, 15, 17] (fun ⟨p, rp⟩ f h => f 18 = U64 p ∧ f 16 = U64 rp ∧ h = [] ∧ KnI y1 y0 u V0 p rp) (u / y1, u - u / y1 * y1) (GC.now ?_) ?_
        · simp only [go_sem, nc_0, true_and, hA1, f1, wd]
          exact ks
        · rintro ⟨p, rp⟩ f h J hA ⟨e18, e16, rfl, hP⟩ hJ
          simp only [go_sem, hA1, f1, wd] at hA
          try dsimp only at hJ
          simp only [go_sem, hA, e18, e16, hA1, f1, wd]
          obtain ⟨b1, b2, b3, b4⟩ := Dv.loop DD hP
          have wB := w_mulB rp hP.2.2
          have wV := w_add (4294967296 * rp) V0 b2
          have wy := w_add rp y1 b4
          by_cases hqB : 4294967296 ≤ p
          · have dq := (d_B p).1 hqB
            obtain ⟨hq0, hle, hPP⟩ := kn_next DD.h1 DD.hU DD.hV hP (.inl hqB)
            have wd := w_dec p hq0 b1
            by_cases hbr : 4294967296 ≤ rp + y1
            · have dbr := (d_B (rp + y1)).1 hbr
              have hend := kn_break DD.h1 DD.hU DD.h0 hle hPP hbr
              obtain ⟨p2, hp2⟩ : ∃ p2, p2 = p - 1 := ⟨_, rfl⟩
              rw [← hp2] at wd hend hle hPP
              obtain ⟨g1, g2, g3, g4⟩ := DD.ends hend
              obtain ⟨k1, k2⟩ := hf p2 e1 hu g1
              have wQ := w_quoB q2 p2 e2 g2
              have wE := w_rest u V0 p2 Y _ g3 (Nat.lt_trans g4 (DD.u64).1)
              have wF := a6 ((u * 4294967296 + V0) % Y)
              rw [k1] at wQ
              rw [k2] at wF
              (try simp only [go_sem, hA, e18, e16, hA1, f1, wd, hA1, f1, wd, dq, wd, wy, dbr, wQ, wE, p1, wF]); repeat' (first | (with_reducible first | refine c_split ?_ ?_ | refine w_split ?_ ?_ | refine tw_split ?_ ?_) <;> intro hb <;> try simp only [go_sem, hb, hA, e18, e16, hA1, f1, wd, hA1, f1, wd, dq, wd, wy, dbr, wQ, wE, p1, wF] | with_reducible refine d322_0_LDiv64 (by with_unfolding_all rfl) (by kernel_rfl) ?_ <;> try simp only [go_sem, hA, e18, e16, hA1, f1, wd, hA1, f1, wd, dq, wd, wy, dbr, wQ, wE, p1, wF] | with_reducible refine hQ _ _ ?_ <;> simp only [Tryz.f322, go_sem, hA, e18, e16, hA1, f1, wd, hA1, f1, wd, dq, wd, wy, dbr, wQ, wE, p1, wF])
              exact hk
            · have dbr := (d_B (rp + y1)).2 hbr
              (try simp only [go_sem, hA, e18, e16, hA1, f1, wd, hA1, f1, wd, dq, wd, wy, dbr]); repeat' (first | (with_reducible first | refine c_split ?_ ?_ | refine w_split ?_ ?_ | refine tw_split ?_ ?_) <;> intro hb <;> try simp only [go_sem, hb, hA, e18, e16, hA1, f1, wd, hA1, f1, wd, dq, wd, wy, dbr] | with_reducible refine d322_0_LDiv64 (by with_unfolding_all rfl) (by kernel_rfl) ?_ <;> try simp only [go_sem, hA, e18, e16, hA1, f1, wd, hA1, f1, wd, dq, wd, wy, dbr] | fail)
              refine GC.now (hJ (p - 1, rp + y1) _ _ (by exact Nat.sub_lt hq0 Nat.one_pos) (by simp only [go_sem, hA, e18, e16, hA1, f1, wd]) ⟨?_, ?_, ?_, ?_⟩) <;> try simp only [go_sem, hA, e18, e16, hA1, f1, wd]
              exact ⟨hle, hPP, Nat.lt_of_not_le hbr⟩
          · have dq := (d_B p).2 hqB
            have wqy := w_mul p y0 (Dv.small DD hqB)
            by_cases hc : 4294967296 * rp + V0 < p * y0
            · have dc := (d_lt _ _).1 hc
              obtain ⟨hq0, hle, hPP⟩ := kn_next DD.h1 DD.hU DD.hV hP (.inr hc)
              have wd := w_dec p hq0 b1
              by_cases hbr : 4294967296 ≤ rp + y1
              · have dbr := (d_B (rp + y1)).1 hbr
                have hend := kn_break DD.h1 DD.hU DD.h0 hle hPP hbr
                obtain ⟨p2, hp2⟩ : ∃ p2, p2 = p - 1 := ⟨_, rfl⟩
                rw [← hp2] at wd hend hle hPP
                obtain ⟨g1, g2, g3, g4⟩ := DD.ends hend
                obtain ⟨k1, k2⟩ := hf p2 e1 hu g1
                have wQ := w_quoB q2 p2 e2 g2
                have wE := w_rest u V0 p2 Y _ g3 (Nat.lt_trans g4 (DD.u64).1)
                have wF := a6 ((u * 4294967296 + V0) % Y)
                rw [k1] at wQ
                rw [k2] at wF
                (try simp only [go_sem, hA, e18, e16, hA1, f1, wd, hA1, f1, wd, dq, wB, wV, wqy, dc, wd, wy, dbr, wQ, wE, p1, wF]); repeat' (first | (with_reducible first | refine c_split ?_ ?_ | refine w_split ?_ ?_ | refine tw_split ?_ ?_) <;> intro hb <;> try simp only [go_sem, hb, hA, e18, e16, hA1, f1, wd, hA1, f1, wd, dq, wB, wV, wqy, dc, wd, wy, dbr, wQ, wE, p1, wF] | with_reducible refine d322_0_LDiv64 (by with_unfolding_all rfl) (by kernel_rfl) ?_ <;> try simp only [go_sem, hA, e18, e16, hA1, f1, wd, hA1, f1, wd, dq, wB, wV, wqy, dc, wd, wy, dbr, wQ, wE, p1, wF] | with_reducible refine hQ _ _ ?_ <;> simp only [Tryz.f322, go_sem, hA, e18, e16, hA1, f1, wd, hA1, f1, wd, dq, wB, wV, wqy, dc, wd, wy, dbr, wQ, wE, p1, wF])
                exact hk
              · have dbr := (d_B (rp + y1)).2 hbr
                (try simp only [go_sem, hA, e18, e16, hA1, f1, wd, hA1, f1, wd, dq, wB, wV, wqy, dc, wd, wy, dbr]); repeat' (first | (with_reducible first | refine c_split ?_ ?_ | refine w_split ?_ ?_ | refine tw_split ?_ ?_) <;> intro hb <;> try simp only [go_sem, hb, hA, e18, e16, hA1, f1, wd, hA1, f1, wd, dq, wB, wV, wqy, dc, wd, wy, dbr] | with_reducible refine d322_0_LDiv64 (by with_unfolding_all rfl) (by kernel_rfl) ?_ <;> try simp only [go_sem, hA, e18, e16, hA1, f1, wd, hA1, f1, wd, dq, wB, wV, wqy, dc, wd, wy, dbr] | fail)
                refine GC.now (hJ (p - 1, rp + y1) _ _ (by exact Nat.sub_lt hq0 Nat.one_pos) (by simp only [go_sem, hA, e18, e16, hA1, f1, wd]) ⟨?_, ?_, ?_, ?_⟩) <;> try simp only [go_sem, hA, e18, e16, hA1, f1, wd]
                exact ⟨hle, hPP, Nat.lt_of_not_le hbr⟩
            · have dc := (d_lt _ _).2 hc
              have hend := kn_stop DD.h1 hP hc
              obtain ⟨g1, g2, g3, g4⟩ := DD.ends hend
              obtain ⟨k1, k2⟩ := hf p e1 hu g1
              have wQ := w_quoB q2 p e2 g2
              have wE := w_rest u V0 p Y _ g3 (Nat.lt_trans g4 (DD.u64).1)
              have wF := a6 ((u * 4294967296 + V0) % Y)
              rw [k1] at wQ
              rw [k2] at wF
              (try simp only [go_sem, hA, e18, e16, hA1, f1, wd, hA1, f1, wd, dq, wB, wV, wqy, dc, wQ, wE, p1, wF]); repeat' (first | (with_reducible first | refine c_split ?_ ?_ | refine w_split ?_ ?_ | refine tw_split ?_ ?_) <;> intro hb <;> try simp only [go_sem, hb, hA, e18, e16, hA1, f1, wd, hA1, f1, wd, dq, wB, wV, wqy, dc, wQ, wE, p1, wF] | with_reducible refine d322_0_LDiv64 (by with_unfolding_all rfl) (by kernel_rfl) ?_ <;> try simp only [go_sem, hA, e18, e16, hA1, f1, wd, hA1, f1, wd, dq, wB, wV, wqy, dc, wQ, wE, p1, wF] | with_reducible refine hQ _ _ ?_ <;> simp only [Tryz.f322, go_sem, hA, e18, e16, hA1, f1, wd, hA1, f1, wd, dq, wB, wV, wqy, dc, wQ, wE, p1, wF])
              exact hk
      · have dbr := (d_B (rh + y1)).2 hbr
        (try simp only [go_sem, hA, e15, e16, dq, wd, wy, dbr]); repeat' (first | (with_reducible first | refine c_split ?_ ?_ | refine w_split ?_ ?_ | refine tw_split ?_ ?_) <;> intro hb <;> try simp only [go_sem, hb, hA, e15, e16, dq, wd, wy, dbr] | with_reducible refine d322_0_LDiv64 (by with_unfolding_all rfl) (by kernel_rfl) ?_ <;> try simp only [go_sem, hA, e15, e16, dq, wd, wy, dbr] | fail)
        refine GC.now (hJ (q - 1, rh + y1) _ _ (by exact Nat.sub_lt hq0 Nat.one_pos) (by simp only [go_sem, hA, e15, e16]) ⟨?_, ?_, ?_, ?_⟩) <;> try simp only [go_sem, hA, e15, e16]
        exact ⟨hle, hPP, Nat.lt_of_not_le hbr⟩
    · have dq := (d_B q).2 hqB
      have wqy := w_mul q y0 (Dv.small D1 hqB)
      by_cases hc : 4294967296 * rh + V1 < q * y0
      · have dc := (d_lt _ _).1 hc
        obtain ⟨hq0, hle, hPP⟩ := kn_next D1.h1 D1.hU D1.hV hP (.inr hc)
        have wd := w_dec q hq0 b1
        by_cases hbr : 4294967296 ≤ rh + y1
        · have dbr := (d_B (rh + y1)).1 hbr
          have hend := kn_break D1.h1 D1.hU D1.h0 hle hPP hbr
          obtain ⟨q2, hq2⟩ : ∃ q2, q2 = q - 1 := ⟨_, rfl⟩
          rw [← hq2] at wd hend hle hPP
          obtain ⟨e1, e2, e3, e4⟩ := D1.ends hend
          obtain ⟨u, hu⟩ : ∃ u, u = (U * 4294967296 + V1) % Y := ⟨_, rfl⟩
          rw [← hu] at e3 e4
          have DD := D0 u e4
          have wR := w_rest U V1 q2 Y u e3 (DD.u64).2.1
          obtain ⟨ks, ks2, ks3⟩ := DD.startq
          have wq := u_wrap (Nat.lt_of_le_of_lt (Nat.div_le_self u y1) (DD.u64).2.1)
          have wm := w_mul _ _ ks3
          have wr := w_sub _ _ ks2 (DD.u64).2.1
          have hf := hfin q2 u
          (try simp only [go_sem, hA, e15, e16, dq, wB, wV, wqy, dc, wd, wy, dbr, wR, y1n, ne_eq, not_false_eq_true, b_quo, dv_quo, wq, wm, wr]); repeat' (first | (with_reducible first | refine c_split ?_ ?_ | refine w_split ?_ ?_ | refine tw_split ?_ ?_) <;> intro hb <;> try simp only [go_sem, hb, hA, e15, e16, dq, wB, wV, wqy, dc, wd, wy, dbr, wR, y1n, ne_eq, not_false_eq_true, b_quo, dv_quo, wq, wm, wr] | with_reducible refine d322_0_LDiv64 (by with_unfolding_all rfl) (by kernel_rfl) ?_ <;> try simp only [go_sem, hA, e15, e16, dq, wB, wV, wqy, dc, wd, wy, dbr, wR, y1n, ne_eq, not_false_eq_true, b_quo, dv_quo, wq, wm, wr] | fail)
          clear hJ
          have hA1 := hA
          have f1 := e15
          refine while_at (α := Nat × Nat) (fun ⟨p, rp⟩ => p) [2, 8, 9, 10, 14, 15, 17] (fun ⟨p, rp⟩ f h => f 18 = U64 p ∧ f 16 = U64 rp ∧ h = [] ∧ KnI y1 y0 u V0 p rp) (u / y1, u - u / y1 * y1) (GC.now ?_) ?_
          · simp only [go_sem, nc_0, true_and, hA1, f1, wd]
            exact ks
          · rintro ⟨p, rp⟩ f h J hA ⟨e18, e16, rfl, hP⟩ hJ
            simp only [go_sem, hA1, f1, wd] at hA
            try dsimp only at hJ
            simp only [go_sem, hA, e18, e16, hA1, f1, wd]
            obtain ⟨b1, b2, b3, b4⟩ := Dv.loop DD hP
            have wB := w_mulB rp hP.2.2
            have wV := w_add (4294967296 * rp) V0 b2
            have wy := w_add rp y1 b4
            by_cases hqB : 4294967296 ≤ p
            · have dq := (d_B p).1 hqB
              obtain ⟨hq0, hle, hPP⟩ := kn_next DD.h1 DD.hU DD.hV hP (.inl hqB)
              have wd := w_dec p hq0 b1
              by_cases hbr : 4294967296 ≤ rp + y1
              · have dbr := (d_B (rp + y1)).1 hbr
                have hend := kn_break DD.h1 DD.hU DD.h0 hle hPP hbr
                obtain ⟨p2, hp2⟩ : ∃ p2, p2 = p - 1 := ⟨_, rfl⟩
                rw [← hp2] at wd hend hle hPP
                obtain ⟨g1, g2, g3, g4⟩ := DD.ends hend
                obtain ⟨k1, k2⟩ := hf p2 e1 hu g1
                have wQ := w_quoB q2 p2 e2 g2
                have wE := w_rest u V0 p2 Y _ g3 (Nat.lt_trans g4 (DD.u64).1)
                have wF := a6 ((u * 4294967296 + V0) % Y)
                rw [k1] at wQ
                rw [k2] at wF
                (try simp only [go_sem, hA, e18, e16, hA1, f1, wd, hA1, f1, wd, dq, wd, wy, dbr, wQ, wE, p1, wF]); repeat' (first | (with_reducible first | refine c_split ?_ ?_ | refine w_split ?_ ?_ | refine tw_split ?_ ?_) <;> intro hb <;> try simp only [go_sem, hb, hA, e18, e16, hA1, f1, wd, hA1, f1, wd, dq, wd, wy, dbr, wQ, wE, p1, wF] | with_reducible refine d322_0_LDiv64 (by with_unfolding_all rfl) (by kernel_rfl) ?_ <;> try simp only [go_sem, hA, e18, e16, hA1, f1, wd, hA1, f1, wd, dq, wd, wy, dbr, wQ, wE, p1, wF] | with_reducible refine hQ _ _ ?_ <;> simp only [Tryz.f322, go_sem, hA, e18, e16, hA1, f1, wd, hA1, f1, wd, dq, wd, wy, dbr, wQ, wE, p1, wF])
                exact hk
              · have dbr := (d_B (rp + y1)).2 hbr
                (try simp only [go_sem, hA, e18, e16, hA1, f1, wd, hA1, f1, wd, dq, wd, wy, dbr]); repeat' (first | (with_reducible first | refine c_split ?_ ?_ | refine w_split ?_ ?_ | refine tw_split ?_ ?_) <;> intro hb <;> try simp only [go_sem, hb, hA, e18, e16, hA1, f1, wd, hA1, f1, wd, dq, wd, wy, dbr] | with_reducible refine d322_0_LDiv64 (by with_unfolding_all rfl) (by kernel_rfl) ?_ <;> try simp only [go_sem, hA, e18, e16, hA1, f1, wd, hA1, f1, wd, dq, wd, wy, dbr] | fail)
                refine GC.now (hJ (p - 1, rp + y1) _ _ (by exact Nat.sub_lt hq0 Nat.one_pos) (by simp only [go_sem, hA, e18, e16, hA1, f1, wd]) ⟨?_, ?_, ?_, ?_⟩) <;> try simp only [go_sem, hA, e18, e16, hA1, f1, wd]
                exact ⟨hle, hPP, Nat.lt_of_not_le hbr⟩
            · have dq := (d_B p).2 hqB
              have wqy := w_mul p y0 (Dv.small DD hqB)
              by_cases hc : 4294967296 * rp + V0 < p * y0
              · have dc := (d_lt _ _).1 hc
                obtain ⟨hq0, hle, hPP⟩ := kn_next DD.h1 DD.hU DD.hV hP (.inr hc)
                have wd := w_dec p hq0 b1
                by_cases hbr : 4294967296 ≤ rp + y1
                · have dbr := (d_B (rp + y1)).1 hbr
                  have hend := kn_break DD.h1 DD.hU DD.h0 hle hPP hbr
                  obtain ⟨p2, hp2⟩ : ∃ p2, p2 = p - 1 := ⟨_, rfl⟩
                  rw [← hp2] at wd hend hle hPP
                  obtain ⟨g1, g2, g3, g4⟩ := DD.ends hend
                  obtain ⟨k1, k2⟩ := hf p2 e1 hu g1
                  have wQ := w_quoB q2 p2 e2 g2
                  have wE := w_rest u V0 p2 Y _ g3 (Nat.lt_trans g4 (DD.u64).1)
                  have wF := a6 ((u * 4294967296 + V0) % Y)
                  rw [k1] at wQ
                  rw [k2] at wF
                  (try simp only [go_sem, hA, e18, e16, hA1, f1, wd, hA1, f1, wd, dq, wB, wV, wqy, dc, wd, wy, dbr, wQ, wE, p1, wF]); repeat' (first | (with_reducible first | refine c_split ?_ ?_ | refine w_split ?_ ?_ | refine tw_split ?_ ?_) <;> intro hb <;> try simp only [go_sem, hb, hA, e18, e16, hA1, f1, wd, hA1, f1, wd, dq, wB, wV, wqy, dc, wd, wy, dbr, wQ, wE, p1, wF] | with_reducible refine d322_0_LDiv64 (by with_unfolding_all rfl) (by kernel_rfl) ?_ <;> try simp only [go_sem, hA, e18, e16, hA1, f1, wd, hA1, f1, wd, dq, wB, wV, wqy, dc, wd, wy, dbr, wQ, wE, p1, wF] | with_reducible refine hQ _ _ ?_ <;> simp only [Tryz.f322, go_sem, hA, e18, e16, hA1, f1, wd, hA1, f1, wd, dq, wB, wV, wqy, dc, wd, wy, dbr, wQ, wE, p1, wF])
                  exact hk
                · have dbr := (d_B (rp + y1)).2 hbr
                  (try simp only [go_sem, hA, e18, e16, hA1, f1, wd, hA1, f1, wd, dq, wB, wV, wqy, dc, wd, wy, dbr]); repeat' (first | (with_reducible first | refine c_split ?_ ?_ | refine w_split ?_ ?_ | refine tw_split ?_ ?_) <;> intro hb <;> try simp only [go_sem, hb, hA, e18, e16, hA1, f1, wd, hA1, f1, wd, dq, wB, wV, wqy, dc, wd, wy, dbr] | with_reducible refine d322_0_LDiv64 (by with_unfolding_all rfl) (by kernel_rfl) ?_ <;> try simp only [go_sem, hA, e18, e16, hA1, f1, wd, hA1, f1, wd, dq, wB, wV, wqy, dc, wd, wy, dbr] | fail)
                  refine GC.now (hJ (p - 1, rp + y1) _ _ (by exact Nat.sub_lt hq0 Nat.one_pos) (by simp only [go_sem, hA, e18, e16, hA1, f1, wd]) ⟨?_, ?_, ?_, ?_⟩) <;> try simp only [go_sem, hA, e18, e16, hA1, f1, wd]
                  exact ⟨hle, hPP, Nat.lt_of_not_le hbr⟩
              · have dc := (d_lt _ _).2 hc
                have hend := kn_stop DD.h1 hP hc
                obtain ⟨g1, g2, g3, g4⟩ := DD.ends hend
                obtain ⟨k1, k2⟩ := hf p e1 hu g1
                have wQ := w_quoB q2 p e2 g2
                have wE := w_rest u V0 p Y _ g3 (Nat.lt_trans g4 (DD.u64).1)
                have wF := a6 ((u * 4294967296 + V0) % Y)
                rw [k1] at wQ
                rw [k2] at wF
                (try simp only [go_sem, hA, e18, e16, hA1, f1, wd, hA1, f1, wd, dq, wB, wV, wqy, dc, wQ, wE, p1, wF]); repeat' (first | (with_reducible first | refine c_split ?_ ?_ | refine w_split ?_ ?_ | refine tw_split ?_ ?_) <;> intro hb <;> try simp only [go_sem, hb, hA, e18, e16, hA1, f1, wd, hA1, f1, wd, dq, wB, wV, wqy, dc, wQ, wE, p1, wF] | with_reducible refine d322_0_LDiv64 (by with_unfolding_all rfl) (by kernel_rfl) ?_ <;> try simp only [go_sem, hA, e18, e16, hA1, f1, wd, hA1, f1, wd, dq, wB, wV, wqy, dc, wQ, wE, p1, wF] | with_reducible refine hQ _ _ ?_ <;> simp only [Tryz.f322, go_sem, hA, e18, e16, hA1, f1, wd, hA1, f1, wd, dq, wB, wV, wqy, dc, wQ, wE, p1, wF])
                exact hk
        · have dbr := (d_B (rh + y1)).2 hbr
          (try simp only [go_sem, hA, e15, e16, dq, wB, wV, wqy, dc, wd, wy, dbr]); repeat' (first | (with_reducible first | refine c_split ?_ ?_ | refine w_split ?_ ?_ | refine tw_split ?_ ?_) <;> intro hb <;> try simp only [go_sem, hb, hA, e15, e16, dq, wB, wV, wqy, dc, wd, wy, dbr] | with_reducible refine d322_0_LDiv64 (by with_unfolding_all rfl) (by kernel_rfl) ?_ <;> try simp only [go_sem, hA, e15, e16, dq, wB, wV, wqy, dc, wd, wy, dbr] | fail)
          refine GC.now (hJ (q - 1, rh + y1) _ _ (by exact Nat.sub_lt hq0 Nat.one_pos) (by simp only [go_sem, hA, e15, e16]) ⟨?_, ?_, ?_, ?_⟩) <;> try simp only [go_sem, hA, e15, e16]
          exact ⟨hle, hPP, Nat.lt_of_not_le hbr⟩
      · have dc := (d_lt _ _).2 hc
        have hend := kn_stop D1.h1 hP hc
        obtain ⟨e1, e2, e3, e4⟩ := D1.ends hend
        obtain ⟨u, hu⟩ : ∃ u, u = (U * 4294967296 + V1) % Y := ⟨_, rfl⟩
        rw [← hu] at e3 e4
        have DD := D0 u e4
        have wR := w_rest U V1 q Y u e3 (DD.u64).2.1
        obtain ⟨ks, ks2, ks3⟩ := DD.startq
        have wq := u_wrap (Nat.lt_of_le_of_lt (Nat.div_le_self u y1) (DD.u64).2.1)
        have wm := w_mul _ _ ks3
        have wr := w_sub _ _ ks2 (DD.u64).2.1
        have hf := hfin q u
        (try simp only [go_sem, hA, e15, e16, dq, wB, wV, wqy, dc, wR, y1n, ne_eq, not_false_eq_true, b_quo, dv_quo, wq, wm, wr]); repeat' (first | (with_reducible first | refine c_split ?_ ?_ | refine w_split ?_ ?_ | refine tw_split ?_ ?_) <;> intro hb <;> try simp only [go_sem, hb, hA, e15, e16, dq, wB, wV, wqy, dc, wR, y1n, ne_eq, not_false_eq_true, b_quo, dv_quo, wq, wm, wr] | with_reducible refine d322_0_LDiv64 (by with_unfolding_all rfl) (by kernel_rfl) ?_ <;> try simp only [go_sem, hA, e15, e16, dq, wB, wV, wqy, dc, wR, y1n, ne_eq, not_false_eq_true, b_quo, dv_quo, wq, wm, wr] | fail)
        clear hJ
        have hA1 := hA
        have f1 := e15
        refine while_at (α := Nat × Nat) (fun ⟨p, rp⟩ => p) [2, 8, 9, 10, 14, 15, 17] (fun ⟨p, rp⟩ f h => f 18 = U64 p ∧ f 16 = U64 rp ∧ h = [] ∧ KnI y1 y0 u V0 p rp) (u / y1, u - u / y1 * y1) (GC.now ?_) ?_
        · simp only [go_sem, nc_0, true_and, hA1, f1]
          exact ks
        · rintro ⟨p, rp⟩ f h J hA ⟨e18, e16, rfl, hP⟩ hJ
          simp only [go_sem, hA1, f1] at hA
          try dsimp only at hJ
          simp only [go_sem, hA, e18, e16, hA1, f1]
          obtain ⟨b1, b2, b3, b4⟩ := Dv.loop DD hP
          have wB := w_mulB rp hP.2.2
          have wV := w_add (4294967296 * rp) V0 b2
          have wy := w_add rp y1 b4
          by_cases hqB : 4294967296 ≤ p
          · have dq := (d_B p).1 hqB
            obtain ⟨hq0, hle, hPP⟩ := kn_next DD.h1 DD.hU DD.hV hP (.inl hqB)
            have wd := w_dec p hq0 b1
            by_cases hbr : 4294967296 ≤ rp + y1
            · have dbr := (d_B (rp + y1)).1 hbr
              have hend := kn_break DD.h1 DD.hU DD.h0 hle hPP hbr
              obtain ⟨p2, hp2⟩ : ∃ p2, p2 = p - 1 := ⟨_, rfl⟩
              rw [← hp2] at wd hend hle hPP
              obtain ⟨g1, g2, g3, g4⟩ := DD.ends hend
              obtain ⟨k1, k2⟩ := hf p2 e1 hu g1
              have wQ := w_quoB q p2 e2 g2
              have wE := w_rest u V0 p2 Y _ g3 (Nat.lt_trans g4 (DD.u64).1)
              have wF := a6 ((u * 4294967296 + V0) % Y)
              rw [k1] at wQ
              rw [k2] at wF
              (try simp only [go_sem, hA, e18, e16, hA1, f1, hA1, f1, dq, wd, wy, dbr, wQ, wE, p1, wF]); repeat' (first | (with_reducible first | refine c_split ?_ ?_ | refine w_split ?_ ?_ | refine tw_split ?_ ?_) <;> intro hb <;> try simp only [go_sem, hb, hA, e18, e16, hA1, f1, hA1, f1, dq, wd, wy, dbr, wQ, wE, p1, wF] | with_reducible refine d322_0_LDiv64 (by with_unfolding_all rfl) (by kernel_rfl) ?_ <;> try simp only [go_sem, hA, e18, e16, hA1, f1, hA1, f1, dq, wd, wy, dbr, wQ, wE, p1, wF] | with_reducible refine hQ _ _ ?_ <;> simp only [Tryz.f322, go_sem, hA, e18, e16, hA1, f1, hA1, f1, dq, wd, wy, dbr, wQ, wE, p1, wF])
              exact hk
            · have dbr := (d_B (rp + y1)).2 hbr
              (try simp only [go_sem, hA, e18, e16, hA1, f1, hA1, f1, dq, wd, wy, dbr]); repeat' (first | (with_reducible first | refine c_split ?_ ?_ | refine w_split ?_ ?_ | refine tw_split ?_ ?_) <;> intro hb <;> try simp only [go_sem, hb, hA, e18, e16, hA1, f1, hA1, f1, dq, wd, wy, dbr] | with_reducible refine d322_0_LDiv64 (by with_unfolding_all rfl) (by kernel_rfl) ?_ <;> try simp only [go_sem, hA, e18, e16, hA1, f1, hA1, f1, dq, wd, wy, dbr] | fail)
              refine GC.now (hJ (p - 1, rp + y1) _ _ (by exact Nat.sub_lt hq0 Nat.one_pos) (by simp only [go_sem, hA, e18, e16, hA1, f1]) ⟨?_, ?_, ?_, ?_⟩) <;> try simp only [go_sem, hA, e18, e16, hA1, f1]
              exact ⟨hle, hPP, Nat.lt_of_not_le hbr⟩
          · have dq := (d_B p).2 hqB
            have wqy := w_mul p y0 (Dv.small DD hqB)
            by_cases hc : 4294967296 * rp + V0 < p * y0
            · have dc := (d_lt _ _).1 hc
              obtain ⟨hq0, hle, hPP⟩ := kn_next DD.h1 DD.hU DD.hV hP (.inr hc)
              have wd := w_dec p hq0 b1
              by_cases hbr : 4294967296 ≤ rp + y1
              · have dbr := (d_B (rp + y1)).1 hbr
                have hend := kn_break DD.h1 DD.hU DD.h0 hle hPP hbr
                obtain ⟨p2, hp2⟩ : ∃ p2, p2 = p - 1 := ⟨_, rfl⟩
                rw [← hp2] at wd hend hle hPP
                obtain ⟨g1, g2, g3, g4⟩ := DD.ends hend
                obtain ⟨k1, k2⟩ := hf p2 e1 hu g1
                have wQ := w_quoB q p2 e2 g2
                have wE := w_rest u V0 p2 Y _ g3 (Nat.lt_trans g4 (DD.u64).1)
                have wF := a6 ((u * 4294967296 + V0) % Y)
                rw [k1] at wQ
                rw [k2] at wF
                (try simp only [go_sem, hA, e18, e16, hA1, f1, hA1, f1, dq, wB, wV, wqy, dc, wd, wy, dbr, wQ, wE, p1, wF]); repeat' (first | (with_reducible first | refine c_split ?_ ?_ | refine w_split ?_ ?_ | refine tw_split ?_ ?_) <;> intro hb <;> try simp only [go_sem, hb, hA, e18, e16, hA1, f1, hA1, f1, dq, wB, wV, wqy, dc, wd, wy, dbr, wQ, wE, p1, wF] | with_reducible refine d322_0_LDiv64 (by with_unfolding_all rfl) (by kernel_rfl) ?_ <;> try simp only [go_sem, hA, e18, e16, hA1, f1, hA1, f1, dq, wB, wV, wqy, dc, wd, wy, dbr, wQ, wE, p1, wF] | with_reducible refine hQ _ _ ?_ <;> simp only [Tryz.f322, go_sem, hA, e18, e16, hA1, f1, hA1, f1, dq, wB, wV, wqy, dc, wd, wy, dbr, wQ, wE, p1, wF])
                exact hk
              · have dbr := (d_B (rp + y1)).2 hbr
                (try simp only [go_sem, hA, e18, e16, hA1, f1, hA1, f1, dq, wB, wV, wqy, dc, wd, wy, dbr]); repeat' (first | (with_reducible first | refine c_split ?_ ?_ | refine w_split ?_ ?_ | refine tw_split ?_ ?_) <;> intro hb <;> try simp only [go_sem, hb, hA, e18, e16, hA1, f1, hA1, f1, dq, wB, wV, wqy, dc, wd, wy, dbr] | with_reducible refine d322_0_LDiv64 (by with_unfolding_all rfl) (by kernel_rfl) ?_ <;> try simp only [go_sem, hA, e18, e16, hA1, f1, hA1, f1, dq, wB, wV, wqy, dc, wd, wy, dbr] | fail)
                refine GC.now (hJ (p - 1, rp + y1) _ _ (by exact Nat.sub_lt hq0 Nat.one_pos) (by simp only [go_sem, hA, e18, e16, hA1, f1]) ⟨?_, ?_, ?_, ?_⟩) <;> try simp only [go_sem, hA, e18, e16, hA1, f1]
                exact ⟨hle, hPP, Nat.lt_of_not_le hbr⟩
            · have dc := (d_lt _ _).2 hc
              have hend := kn_stop DD.h1 hP hc
              obtain ⟨g1, g2, g3, g4⟩ := DD.ends hend
              obtain ⟨k1, k2⟩ := hf p e1 hu g1
              have wQ := w_quoB q p e2 g2
              have wE := w_rest u V0 p Y _ g3 (Nat.lt_trans g4 (DD.u64).1)
              have wF := a6 ((u * 4294967296 + V0) % Y)
              rw [k1] at wQ
              rw [k2] at wF
              (try simp only [go_sem, hA, e18, e16, hA1, f1, hA1, f1, dq, wB, wV, wqy, dc, wQ, wE, p1, wF]); repeat' (first | (with_reducible first | refine c_split ?_ ?_ | refine w_split ?_ ?_ | refine tw_split ?_ ?_) <;> intro hb <;> try simp only [go_sem, hb, hA, e18, e16, hA1, f1, hA1, f1, dq, wB, wV, wqy, dc, wQ, wE, p1, wF] | with_reducible refine d322_0_LDiv64 (by with_unfolding_all rfl) (by kernel_rfl) ?_ <;> try simp only [go_sem, hA, e18, e16, hA1, f1, hA1, f1, dq, wB, wV, wqy, dc, wQ, wE, p1, wF] | with_reducible refine hQ _ _ ?_ <;> simp only [Tryz.f322, go_sem, hA, e18, e16, hA1, f1, hA1, f1, dq, wB, wV, wqy, dc, wQ, wE, p1, wF])
              exact hk
end Go.Proofs.YtkndmncgohmjmaaGreat
end
section
namespace Go.Proofs.YtkndmncgohmjmaaGreat
open Go.BL Go.RowKit
set_option linter.unusedVariables false
set_option linter.unusedSimpArgs false
set_option maxRecDepth 100000
theorem md_none {a b c : Nat} (hc : 1 ≤ c) (h : c ≤ a * b / 18446744073709551616) : ¬ a * b / c ≤ 1000000000000000 := by
  have h1 : c * 18446744073709551616 ≤ a * b := by rw [Nat.mul_comm]; exact Nat.le_trans (Nat.mul_le_mul_left _ h) (Nat.mul_div_le _ _)
  have h2 : 18446744073709551616 ≤ a * b / c := (Nat.le_div_iff_mul_le hc).2 (by rw [Nat.mul_comm]; exact h1)
  omega
theorem md_nat (a b c : Nat) : mulDivR (a : Int) (b : Int) (c : Int) = if (mdOk a b c && decide (a * b / c ≤ 1000000000000000)) = true then some (((a * b / c : Nat) : Int), ((a * b % c : Nat) : Int)) else none := by
  unfold mulDivR
  have e1 : (a : Int) * (b : Int) / (c : Int) = ((a * b / c : Nat) : Int) := by rw [← Int.natCast_mul]; exact (Int.natCast_ediv _ _).symm
  have e2 : (a : Int) * (b : Int) % (c : Int) = ((a * b % c : Nat) : Int) := by rw [← Int.natCast_mul]; exact (Int.natCast_emod _ _).symm
  rw [e1, e2]
  have e3 : decide (((a * b / c : Nat) : Int) ≤ 1000000000000000) = decide (a * b / c ≤ 1000000000000000) := by
    by_cases h : a * b / c ≤ 1000000000000000
    · rw [decide_eq_true h, decide_eq_true (by omega)]
    · rw [decide_eq_false h, decide_eq_false (by omega)]
  rw [e3]
theorem i_wrap {n : Nat} (h : n ≤ 1000000000000000) : IntKind.i64.wrap ((n : Nat) : Int) = ((n : Nat) : Int) := wrap_nat64 _ (by omega)
theorem md_dB (a : Nat) : (1000000000000000 < a → decide ((1000000000000000 : Int) < (a : Int)) = true) ∧ (¬ 1000000000000000 < a → decide ((1000000000000000 : Int) < (a : Int)) = false) := ⟨fun h => decide_eq_true (by omega), fun h => decide_eq_false (by omega)⟩
set_option maxHeartbeats 4000000 in
theorem c_impl_MulDiv (a b c : Int) (K : AV → AH → Prop) (hk : K (mdV (mulDivR a b c)) []) : ACalls Tryz.prog 263 [(.one (.c (.int .i64 (a)))), (.one (.c (.int .i64 (b)))), (.one (.c (.int .i64 (c))))] [] K := by
  cases o1 : decide (0 ≤ a ∧ a ≤ 1000000000000000) with
  | false =>
    have hr : mulDivR a b c = none := by unfold mulDivR mdOk; rw [o1]; simp
    rw [hr, mdV] at hk
    refine acall_c Tryz.f263.results.toList mixed Tryz.func263 rfl rfl (by kernel_rfl) ?_
    intro Q hQ hQO
    simp only [go_sem]
    (try simp only [go_sem, o1]); repeat' (first | (with_reducible first | refine c_split ?_ ?_ | refine w_split ?_ ?_) <;> intro hb <;> try simp only [go_sem, hb, o1] | refine call_c (c_in _ _ _ _ ?_) <;> try simp only [go_sem, o1] | with_reducible refine hQ _ _ ?_ <;> simp only [Tryz.f263, go_sem, o1])
    exact hk
  | true =>
  cases o2 : decide (0 ≤ b ∧ b ≤ 1000000000000000) with
  | false =>
    have hr : mulDivR a b c = none := by unfold mulDivR mdOk; rw [o2]; simp
    rw [hr, mdV] at hk
    refine acall_c Tryz.f263.results.toList mixed Tryz.func263 rfl rfl (by kernel_rfl) ?_
    intro Q hQ hQO
    simp only [go_sem]
    (try simp only [go_sem, o1, o2]); repeat' (first | (with_reducible first | refine c_split ?_ ?_ | refine w_split ?_ ?_) <;> intro hb <;> try simp only [go_sem, hb, o1, o2] | refine call_c (c_in _ _ _ _ ?_) <;> try simp only [go_sem, o1, o2] | with_reducible refine hQ _ _ ?_ <;> simp only [Tryz.f263, go_sem, o1, o2])
    exact hk
  | true =>
  cases o3 : decide (1 ≤ c ∧ c ≤ 1000000000000000) with
  | false =>
    have hr : mulDivR a b c = none := by unfold mulDivR mdOk; rw [o3]; simp
    rw [hr, mdV] at hk
    refine acall_c Tryz.f263.results.toList mixed Tryz.func263 rfl rfl (by kernel_rfl) ?_
    intro Q hQ hQO
    simp only [go_sem]
    (try simp only [go_sem, o1, o2, o3]); repeat' (first | (with_reducible first | refine c_split ?_ ?_ | refine w_split ?_ ?_) <;> intro hb <;> try simp only [go_sem, hb, o1, o2, o3] | refine call_c (c_in _ _ _ _ ?_) <;> try simp only [go_sem, o1, o2, o3] | with_reducible refine hQ _ _ ?_ <;> simp only [Tryz.f263, go_sem, o1, o2, o3])
    exact hk
  | true =>
  have q1 := of_decide_eq_true o1
  have q2 := of_decide_eq_true o2
  have q3 := of_decide_eq_true o3
  have hok : mdOk a b c = true := by unfold mdOk; rw [o1, o2, o3]; rfl
  obtain ⟨a, rfl⟩ : ∃ n : Nat, a = n := ⟨a.toNat, by omega⟩
  obtain ⟨b, rfl⟩ : ∃ n : Nat, b = n := ⟨b.toNat, by omega⟩
  obtain ⟨c, rfl⟩ : ∃ n : Nat, c = n := ⟨c.toNat, by omega⟩
  have ha : a < 18446744073709551616 := by omega
  have hb : b < 18446744073709551616 := by omega
  have hc1 : 1 ≤ c := by omega
  have hc2 : c ≤ 1000000000000000 := by omega
  have wa := u_wrap ha
  have wb := u_wrap hb
  have wc := u_wrap (n := c) (by omega)
  have hlo := Nat.mod_lt (a * b) (show 18446744073709551616 > 0 by decide)
  have hsum : a * b / 18446744073709551616 * 18446744073709551616 + a * b % 18446744073709551616 = a * b := Nat.div_add_mod' _ _
  have hn := md_none (a := a) (b := b) hc1
  rw [md_nat, hok, Bool.true_and] at hk
  have cM := c_Mul64 a b ha hb
  have p1 : decide ((a : Int) ≤ 1000000000000000) = true := decide_eq_true q1.2
  have p2 : decide ((b : Int) ≤ 1000000000000000) = true := decide_eq_true q2.2
  clear q1 q2 q3 hok
  obtain ⟨hi, hhi⟩ : ∃ q, q = a * b / 18446744073709551616 := ⟨_, rfl⟩
  obtain ⟨lo, hlo'⟩ : ∃ q, q = a * b % 18446744073709551616 := ⟨_, rfl⟩
  rw [← hhi, ← hlo'] at cM hsum
  rw [← hhi] at hn
  rw [← hlo'] at hlo
  by_cases hch : c ≤ hi
  · have d1 := (d_le c hi).1 hch
    have hf := hn hch
    rw [if_neg (by rw [decide_eq_false hf]; decide), mdV] at hk
    refine acall_c Tryz.f263.results.toList mixed Tryz.func263 rfl rfl (by kernel_rfl) ?_
    intro Q hQ hQO
    simp only [go_sem]
    (try simp only [go_sem, o1, o2, o3, p1, p2, wa, wb, wc, d1]); repeat' (first | (with_reducible first | refine c_split ?_ ?_ | refine w_split ?_ ?_) <;> intro hb <;> try simp only [go_sem, hb, o1, o2, o3, p1, p2, wa, wb, wc, d1] | (first | refine call_c (c_in _ _ _ _ ?_) | refine call_c (cM _ ?_) | fail) <;> try simp only [go_sem, o1, o2, o3, p1, p2, wa, wb, wc, d1] | with_reducible refine hQ _ _ ?_ <;> simp only [Tryz.f263, go_sem, o1, o2, o3, p1, p2, wa, wb, wc, d1])
    exact hk
  · have d1 := (d_le c hi).2 hch
    have cD := c_Div64 hi lo c hc1 hc2 (Nat.lt_of_not_le hch) hlo
    rw [hsum] at cD
    have hr := Nat.mod_lt (a * b) hc1
    obtain ⟨q, hq⟩ : ∃ q, q = a * b / c := ⟨_, rfl⟩
    obtain ⟨r, hr'⟩ : ∃ q, q = a * b % c := ⟨_, rfl⟩
    rw [← hq, ← hr'] at cD hk
    rw [← hr'] at hr
    have wr := i_wrap (n := r) (by omega)
    by_cases hbig : 1000000000000000 < q
    · have d2 := (md_dB q).1 hbig
      rw [if_neg (by rw [decide_eq_false (by omega)]; decide), mdV] at hk
      refine acall_c Tryz.f263.results.toList mixed Tryz.func263 rfl rfl (by kernel_rfl) ?_
      intro Q hQ hQO
      simp only [go_sem]
      (try simp only [go_sem, o1, o2, o3, p1, p2, wa, wb, wc, d1, d2]); repeat' (first | (with_reducible first | refine c_split ?_ ?_ | refine w_split ?_ ?_) <;> intro hb <;> try simp only [go_sem, hb, o1, o2, o3, p1, p2, wa, wb, wc, d1, d2] | (first | refine call_c (c_in _ _ _ _ ?_) | refine call_c (cM _ ?_) | refine call_c (cD _ ?_) | fail) <;> try simp only [go_sem, o1, o2, o3, p1, p2, wa, wb, wc, d1, d2] | with_reducible refine hQ _ _ ?_ <;> simp only [Tryz.f263, go_sem, o1, o2, o3, p1, p2, wa, wb, wc, d1, d2])
      exact hk
    · have d2 := (md_dB q).2 hbig
      have wq := i_wrap (n := q) (by omega)
      rw [if_pos (by rw [decide_eq_true (by omega)]), mdV] at hk
      refine acall_c Tryz.f263.results.toList mixed Tryz.func263 rfl rfl (by kernel_rfl) ?_
      intro Q hQ hQO
      simp only [go_sem]
      (try simp only [go_sem, o1, o2, o3, p1, p2, wa, wb, wc, d1, d2, wq, wr]); repeat' (first | (with_reducible first | refine c_split ?_ ?_ | refine w_split ?_ ?_) <;> intro hb <;> try simp only [go_sem, hb, o1, o2, o3, p1, p2, wa, wb, wc, d1, d2, wq, wr] | (first | refine call_c (c_in _ _ _ _ ?_) | refine call_c (cM _ ?_) | refine call_c (cD _ ?_) | fail) <;> try simp only [go_sem, o1, o2, o3, p1, p2, wa, wb, wc, d1, d2, wq, wr] | with_reducible refine hQ _ _ ?_ <;> simp only [Tryz.f263, go_sem, o1, o2, o3, p1, p2, wa, wb, wc, d1, d2, wq, wr])
      exact hk
end Go.Proofs.YtkndmncgohmjmaaGreat
end
section
namespace Go.Proofs.YtkndmncgohmjmaaGreat
open Go.BL Go.RowKit
set_option linter.unusedVariables false
set_option linter.unusedSimpArgs false
set_option maxRecDepth 100000
theorem d175_0_LLotI : DrawL Tryz.prog 0 14 (.on [(0, true, true), (1, true, true), (2, true, true), (3, true, true), (4, true, true), (5, true, true), (6, true, true), (7, true, true), (8, true, false), (9, false, false), (10, false, false), (11, false, false), (12, false, true), (13, false, true), (14, false, true), (15, false, true)] .nil) := draw_L
attribute [local go_sem] lotC
open Go.Sort
theorem rl_get (n : Nat) : ∀ (m i j : Nat) (d : Array Lot), j - i ≤ m → i + j + 1 = n → d.size = n → ∀ k, k < n → (reverseLoop i j d)[k]! = if i ≤ k ∧ k ≤ j then d[n - 1 - k]! else d[k]! := by
  intro m
  induction m with
  | zero =>
    intro i j d hm hn hs k hk
    rw [rv_end (by omega)]
    split
    · rename_i h; rw [show n - 1 - k = k by omega]
    · rfl
  | succ m ih =>
    intro i j d hm hn hs k hk
    by_cases hij : i < j
    · rw [rv_go hij, ih (i + 1) (j - 1) (swp d i j) (by omega) (by omega) (by rw [swp_size]; exact hs) k hk]
      by_cases h1 : k = i
      · subst h1
        rw [if_neg (by omega), if_pos (by omega), swp_left _ _ _ (by omega) (by omega), show n - 1 - k = j by omega]
      · by_cases h2 : k = j
        · subst h2
          rw [if_neg (by omega), if_pos (by omega), swp_right _ _ _ (by omega), show n - 1 - k = i by omega]
        · by_cases h3 : i ≤ k ∧ k ≤ j
          · rw [if_pos (by omega), if_pos h3, swp_other _ _ _ _ (by omega) (by omega)]
          · rw [if_neg (by omega), if_neg h3, swp_other _ _ _ _ h1 h2]
    · rw [rv_end hij]
      split
      · rename_i h; rw [show n - 1 - k = k by omega]
      · rfl
theorem rl_size : ∀ (m i j : Nat) (d : Array Lot), j - i ≤ m → (reverseLoop i j d).size = d.size := by
  intro m
  induction m with
  | zero => intro i j d hm; rw [rv_end (by omega)]
  | succ m ih =>
    intro i j d hm
    by_cases hij : i < j
    · rw [rv_go hij, ih _ _ _ (by omega), swp_size]
    · rw [rv_end hij]
theorem rev_all (d : Array Lot) (h : 0 < d.size) : (reverseLoop 0 (d.size - 1) d).toList = d.toList.reverse := by
  have hs := rl_size d.size 0 (d.size - 1) d (by omega)
  apply List.ext_getElem
  · rw [List.length_reverse]; exact hs
  · intro k h1 h2
    have hk : k < d.size := by rw [← hs]; exact h1
    have hg := rl_get d.size d.size 0 (d.size - 1) d (by omega) (by omega) rfl k hk
    rw [if_pos (by omega), getElem!_pos _ k h1, getElem!_pos d (d.size - 1 - k) (by omega)] at hg
    rw [List.getElem_reverse]
    simpa using hg
theorem s_Reverse (d : Array Lot) (n : Nat) (e : d.size = n) (g : Nat) (cap : Option Nat) (h0 : 0 < n) (hn : n ≤ 1000) (K : AV → AH → Prop) (hk : K (.tup []) [arrO g cap (reverseLoop 0 (n - 1) d)]) : ACalls Tryz.prog 175 [.one (.sl 0 g 0 n)] [arrO g cap d] K := by
  have wb := rv_w (n := 0) h0 hn
  refine acall_h Tryz.f175.results.toList mixed Tryz.func175 rfl rfl (by kernel_rfl) ?_
  intro Q hQ hQN
  simp only [go_sem, arrO]
  (try simp only [go_sem, wb]); repeat' (first | (with_reducible first | refine c_split ?_ ?_ | refine w_split ?_ ?_ | refine tw_split ?_ ?_) <;> intro hb <;> try simp only [go_sem, hb, wb] | with_reducible refine d175_0_LLotI (by with_unfolding_all rfl) (by kernel_rfl) ?_ <;> try simp only [go_sem, wb] | fail)
  refine while_at (α := Nat × Nat × Array Lot) (fun ⟨i, j, y⟩ => j - i) [0] (fun ⟨i, j, y⟩ f h => f 2 = (.one (.c (.int .i64 ((i : Int))))) ∧ f 3 = (.one (.c (.int .i64 ((j : Int))))) ∧ h = [.own g 112 5 cap (y.toList.map lotC)] ∧ j < n ∧ y.size = n ∧ reverseLoop 0 (n - 1) d = reverseLoop i j y) (0, n - 1, d) (GC.now ?_) ?_
  · simp only [go_sem, nc_0, true_and, wb]
    exact ⟨Nat.sub_lt h0 Nat.zero_lt_one, e⟩
  · rintro ⟨i, j, y⟩ f h J hA ⟨e2, e3, rfl, hP⟩ hJ
    simp only [go_sem, wb] at hA
    try dsimp only at hJ
    simp only [go_sem, hA, e2, e3, wb]
    obtain ⟨hjn, hys, hm⟩ := hP
    by_cases hij : i < j
    · have hd : decide ((i : Int) < (j : Int)) = true := decide_eq_true (Int.ofNat_lt.2 hij)
      have hin : i < n := Nat.lt_trans hij hjn
      have gi := arr_get y (hys ▸ hin)
      have gj := arr_get y (hys ▸ hjn)
      have li : (i : Int) < (n : Int) := Int.ofNat_lt.2 hin
      have lj : (j : Int) < (n : Int) := Int.ofNat_lt.2 hjn
      have hsw := arr_swp y i j
      have hgs := fun z => get_set_ne y (i := i) (j := j) (hys ▸ hjn) (Nat.ne_of_gt hij) z
      have w1 := wrap_nat i (st_n hin hn)
      have w2 := rv_w (j := j) (n := 0) (Nat.lt_of_le_of_lt (Nat.zero_le _) hij) (Nat.le_trans (Nat.le_of_lt hjn) hn)
      rw [rv_go hij] at hm
      (try simp only [go_sem, hA, e2, e3, wb, hd, gi, gj, li, lj, hgs, hsw, w1, w2]); repeat' (first | (with_reducible first | refine c_split ?_ ?_ | refine w_split ?_ ?_ | refine tw_split ?_ ?_) <;> intro hb <;> try simp only [go_sem, hb, hA, e2, e3, wb, hd, gi, gj, li, lj, hgs, hsw, w1, w2] | with_reducible refine d175_0_LLotI (by with_unfolding_all rfl) (by kernel_rfl) ?_ <;> try simp only [go_sem, hA, e2, e3, wb, hd, gi, gj, li, lj, hgs, hsw, w1, w2] | fail)
      refine GC.now (hJ (i + 1, j - 1, swp y i j) _ _ (by exact rv_m hij) (by simp only [go_sem, hA, e2, e3, wb]) ⟨?_, ?_, ?_, ?_⟩) <;> try simp only [go_sem, hA, e2, e3, wb, w1, w2, hsw]
      exact ⟨Nat.lt_of_le_of_lt (Nat.sub_le _ _) hjn, by rw [swp_size]; exact hys, hm⟩
    · have hd : decide ((i : Int) < (j : Int)) = false := decide_eq_false (fun q => hij (Int.ofNat_lt.1 q))
      rw [rv_end hij] at hm
      rw [hm] at hk
      (try simp only [go_sem, hA, e2, e3, wb, hd]); repeat' (first | (with_reducible first | refine c_split ?_ ?_ | refine w_split ?_ ?_ | refine tw_split ?_ ?_) <;> intro hb <;> try simp only [go_sem, hb, hA, e2, e3, wb, hd] | with_reducible refine d175_0_LLotI (by with_unfolding_all rfl) (by kernel_rfl) ?_ <;> try simp only [go_sem, hA, e2, e3, wb, hd] | fail)
      refine hQN [] _ _ (GC.now ?_) <;> simp only [Tryz.f175, go_sem, List.nodup_cons, List.nodup_nil, List.mem_cons, List.not_mem_nil, or_false, not_false_eq_true, List.idxOf?_cons, List.idxOf?_nil, Option.map_none, forall_eq]
      exact hk
theorem f_Reverse (xs : List Lot) (g : Nat) (cap : Option Nat) (h0 : 0 < xs.length) (hn : xs.length ≤ 1000) (h : AH) (l : Nat) (hl : h[l]? = some (.own g 112 5 cap (xs.map lotC))) (K : AV → AH → Prop) (hk : K (.tup []) (h.set l (.own g 112 5 cap (xs.reverse.map lotC)))) : FCalls Tryz.prog 175 [.one (.sl l g 0 xs.length)] h [l] K :=
  frame1 (args := [.one (.sl 0 g 0 xs.length)]) (es := xs.toArray.toList.map lotC) hl (arr_cl xs.toArray) (s_Reverse xs.toArray xs.length (by simp) g cap h0 hn _ (fun o' ext e => by
    cases e
    have hr : reverseLoop 0 (xs.length - 1) xs.toArray = xs.reverse.toArray := by
      have := rev_all xs.toArray (by simpa using h0)
      apply Array.ext'
      simpa using this
    have hq : arrO g cap xs.reverse.toArray = .own g 112 5 cap (xs.reverse.map lotC) := rfl
    simp only [hr, arr_rn, List.map_nil, List.append_nil]
    rw [hq]
    exact hk))
theorem tf_step {own out : List Lot} {q0 q cost : Int} {j : Nat} (hj : j < own.length) (h1 : (takeF own q0).1 = out ++ (takeF (own.drop j) q).1) (h2 : (takeF own q0).2 = cost + (takeF (own.drop j) q).2) :
    (own[j].qty - min own[j].qty q = 0 → (takeF own q0).1 = out ++ (takeF (own.drop (j + 1)) (q - min own[j].qty q)).1) ∧ (¬ own[j].qty - min own[j].qty q = 0 → (takeF own q0).1 = (out ++ [cutL own[j] q]) ++ (takeF (own.drop (j + 1)) (q - min own[j].qty q)).1) ∧ (takeF own q0).2 = (cost + mdQ own[j].cost (min own[j].qty q) own[j].qty) + (takeF (own.drop (j + 1)) (q - min own[j].qty q)).2 := by
  rw [List.drop_eq_getElem_cons hj, takeF] at h1 h2
  by_cases hz : own[j].qty - min own[j].qty q = 0
  · rw [if_pos hz] at h1 h2
    refine ⟨fun _ => h1, fun h => absurd hz h, ?_⟩
    rw [h2]; simp only; omega
  · rw [if_neg hz] at h1 h2
    refine ⟨fun h => absurd h hz, fun _ => ?_, ?_⟩
    · rw [h1, List.append_assoc]; rfl
    · rw [h2]; simp only; omega
theorem tf_nums {l : Lot} {q cost : Int} {j : Nat} (hl : (0 ≤ l.qty ∧ l.qty ≤ 1000000000000000) ∧ 0 ≤ l.cost ∧ l.cost ≤ 1000000000000000) (hp : 1 ≤ l.qty) (h0 : 0 ≤ q ∧ q ≤ 1000000000000000) (hc : 0 ≤ cost ∧ cost ≤ 1000000000000000 * (j : Int)) (hj : j ≤ 1000) :
    (if l.qty < q then l.qty else q) = min l.qty q ∧ wrap64 (q - min l.qty q) = q - min l.qty q ∧ wrap64 (cost + mdQ l.cost (min l.qty q) l.qty) = cost + mdQ l.cost (min l.qty q) l.qty ∧ wrap64 (l.qty - min l.qty q) = l.qty - min l.qty q ∧ wrap64 (l.cost - mdQ l.cost (min l.qty q) l.qty) = l.cost - mdQ l.cost (min l.qty q) l.qty ∧
    (0 ≤ q - min l.qty q ∧ q - min l.qty q ≤ 1000000000000000) ∧ (0 ≤ cost + mdQ l.cost (min l.qty q) l.qty ∧ cost + mdQ l.cost (min l.qty q) l.qty ≤ 1000000000000000 * ((j + 1 : Nat) : Int)) := by
  have hm := mdQ_le (a := l.cost) (b := min l.qty q) (c := l.qty) hl.2.1 (by omega) (by omega) hp
  refine ⟨by split <;> omega, wrap_id _ (by omega) (by omega), wrap_id _ (by omega) (by omega), wrap_id _ (by omega) (by omega), wrap_id _ (by omega) (by omega), by omega, by omega⟩
theorem tf_d (l : Lot) (q : Int) : (l.qty - min l.qty q = 0 → decide (min l.qty q < l.qty) = false) ∧ (¬ l.qty - min l.qty q = 0 → decide (min l.qty q < l.qty) = true) := ⟨fun h => decide_eq_false (by omega), fun h => decide_eq_true (by omega)⟩
theorem tf_w {a b : Nat} (h : a < b) (hb : b ≤ 1000) : wrap64 ((a : Int) + 1) = ((a + 1 : Nat) : Int) ∧ (a : Int) < (b : Int) ∧ decide ((a : Int) < (b : Int)) = true ∧ b - (a + 1) < b - a := ⟨wrap_nat a (by omega), by omega, decide_eq_true (by omega), by omega⟩
theorem tf_e {a b : Nat} (h : ¬ a < b) (h2 : a ≤ b) : decide ((a : Int) < (b : Int)) = false ∧ a = b := ⟨decide_eq_false (by omega), by omega⟩
theorem tf_room {xs : List Lot} (h : xs.length ≤ 1000) (x : List CV) : ((xs.map lotC).length + [x].length) * 40 ≤ 140737488355328 := by rw [List.length_map]; show (xs.length + 1) * 40 ≤ _; omega
theorem tf_len {out r own : List Lot} {q : Int} (h : (takeF own q).1 = out ++ r) (hn : own.length ≤ 1000) : out.length ≤ 1000 := by
  have := (takeF_keys own q).length_le
  rw [List.length_map, List.length_map, h, List.length_append] at this
  omega
set_option maxHeartbeats 4000000 in
theorem c_takeLots (own : List Lot) (q : Int) (hf : Fine own) (hpos : ∀ x ∈ own, 1 ≤ x.qty) (hq : 0 ≤ q ∧ q ≤ 1000000000000000) (K : AV → AH → Prop) (hk : K (.tup [.one (.sl 0 0 0 (takeF own q).1.length), (.one (.c (.int .i64 ((takeF own q).2))))]) [.own 0 112 5 none ((takeF own q).1.map lotC)]) : ACalls Tryz.prog 174 [(.one (.im (own.map lotC))), (.one (.c (.int .i64 (q))))] [] K := by
  have hn := hf.2
  refine acall_c Tryz.f174.results.toList mixed Tryz.func174 rfl rfl (by kernel_rfl) ?_
  intro Q hQ hQO
  simp only [go_sem]
  (try simp only [go_sem]); repeat' (first | (with_reducible first | refine c_split ?_ ?_ | refine w_split ?_ ?_) <;> intro hb <;> try simp only [go_sem, hb] | fail)
  refine while_at (α := Nat × Int × Int × List Lot × Nat × Option Nat) (fun ⟨j, p, cost, out, g, cap⟩ => own.length - j) [15, 16] (fun ⟨j, p, cost, out, g, cap⟩ f h => f 1 = (.one (.c (.int .i64 (p)))) ∧ f 6 = (.one (.c (.int .i64 (cost)))) ∧ f 7 = .one (.sl 0 g 0 out.length) ∧ f 17 = (.one (.c (.int .i64 ((j : Int))))) ∧ h = [.own g 112 5 cap (out.map lotC)] ∧ j ≤ own.length ∧ (takeF own q).1 = out ++ (takeF (own.drop j) p).1 ∧ (takeF own q).2 = cost + (takeF (own.drop j) p).2 ∧ (0 ≤ p ∧ p ≤ 1000000000000000) ∧ 0 ≤ cost ∧ cost ≤ 1000000000000000 * (j : Int)) (0, q, 0, [], 0, some 0) (GC.now ?_) ?_
  · simp only [go_sem, nc_0, true_and]
    simp [hq.1, hq.2]
  · rintro ⟨j, p, cost, out, g, cap⟩ f h J hA ⟨e1, e6, e7, e17, rfl, hP⟩ hJ
    simp only [go_sem] at hA
    try dsimp only at hJ
    simp only [go_sem, hA, e1, e6, e7, e17]
    obtain ⟨hjl, hm1, hm2, hp, hc⟩ := hP
    have hol := tf_len hm1 hn
    by_cases hj : j < own.length
    · obtain ⟨hw, hil, hd, hdec⟩ := tf_w hj hn
      have hg : own[j]? = some own[j] := List.getElem?_eq_getElem hj
      have hmem := List.getElem_mem hj
      obtain ⟨n1, n2, n3, n4, n5, n6, n7⟩ := tf_nums (q := p) (cost := cost) (j := j) (hf.1 _ hmem) (hpos _ hmem) hp hc (Nat.le_trans hjl hn)
      obtain ⟨t1, t2, t3⟩ := tf_step hj hm1 hm2
      obtain ⟨rm, okm, hmd⟩ := mdV_q own[j].cost (min own[j].qty p) own[j].qty
      have hcut : cutL own[j] p = ⟨own[j].account, own[j].instr, own[j].no, own[j].qty - min own[j].qty p, own[j].cost - mdQ own[j].cost (min own[j].qty p) own[j].qty⟩ := rfl
      have hdd := tf_d own[j] p
      generalize hL : own[j] = l at *
      generalize hM : mdQ l.cost (min l.qty p) l.qty = md at *
      generalize hR : mulDivR l.cost (min l.qty p) l.qty = mr at *
      have cM := c_impl_MulDiv l.cost (min l.qty p) l.qty
      rw [hR] at cM
      by_cases hz : l.qty - min l.qty p = 0
      · have d2 := hdd.1 hz
        (try simp only [go_sem, hA, e1, e6, e7, e17, hd, hil, hg, n1, n2, n3, hmd, d2]); repeat' (first | (with_reducible first | refine c_split ?_ ?_ | refine w_split ?_ ?_) <;> intro hb <;> try simp only [go_sem, hb, hA, e1, e6, e7, e17, hd, hil, hg, n1, n2, n3, hmd, d2] | refine call_c (cM _ ?_) <;> try simp only [go_sem, hA, e1, e6, e7, e17, hd, hil, hg, n1, n2, n3, hmd, d2] | fail)
        refine gc_trim 1 (by decide) (by simp only [go_sem]) (by simp only [go_sem, hw, n1, n2, n3]) (hJ (j + 1, p - min l.qty p, cost + md, out, g, cap) _ _ (by exact hdec) (by simp only [go_sem, hA, e1, e6, e7, e17]) ⟨?_, ?_, ?_, ?_, ?_, ?_⟩) <;> try simp only [go_sem, hA, e1, e6, e7, e17, hw, n1, n2, n3]
        exact ⟨hj, t1 hz, t3, n6, n7⟩
      · have d2 := hdd.2 hz
        (try simp only [go_sem, hA, e1, e6, e7, e17, hd, hil, hg, n1, n2, n3, n4, n5, hmd, d2]); repeat' (first | (with_reducible first | refine c_split ?_ ?_ | refine w_split ?_ ?_) <;> intro hb <;> try simp only [go_sem, hb, hA, e1, e6, e7, e17, hd, hil, hg, n1, n2, n3, n4, n5, hmd, d2] | refine call_c (cM _ ?_) <;> try simp only [go_sem, hA, e1, e6, e7, e17, hd, hil, hg, n1, n2, n3, n4, n5, hmd, d2] | fail)
        refine ap_end rfl (List.length_map ..).symm (tf_room hol _) ?_
        (try simp only [go_sem, hA, e1, e6, e7, e17, hw]); repeat' (first | (with_reducible first | refine c_split ?_ ?_ | refine w_split ?_ ?_) <;> intro hb <;> try simp only [go_sem, hb, hA, e1, e6, e7, e17, hw] | fail)
        refine gc_trim 1 (by decide) (by simp only [go_sem]) (by simp only [go_sem, hw, n1, n2, n3, n4, n5, hcut]) (hJ (j + 1, p - min l.qty p, cost + md, out ++ [cutL l p], g + 1, none) _ _ (by exact hdec) (by simp only [go_sem, hA, e1, e6, e7, e17]) ⟨?_, ?_, ?_, ?_, ?_, ?_⟩) <;> try simp only [go_sem, hA, e1, e6, e7, e17, hw, n1, n2, n3, n4, n5, hcut]
        exact ⟨hj, by rw [← hcut]; exact t2 hz, t3, n6, n7⟩
    · obtain ⟨hd, hjl2⟩ := tf_e hj hjl
      have hdr : own.drop j = [] := List.drop_of_length_le (by omega)
      rw [hdr, takeF] at hm1 hm2
      simp only [List.append_nil, Int.add_zero] at hm1 hm2
      rw [hm1, hm2] at hk
      (try simp only [go_sem, hA, e1, e6, e7, e17, hd]); repeat' (first | (with_reducible first | refine c_split ?_ ?_ | refine w_split ?_ ?_) <;> intro hb <;> try simp only [go_sem, hb, hA, e1, e6, e7, e17, hd] | fail)
      have htk : (out.map lotC).take out.length = out.map lotC := List.take_of_length_le (by simp)
      refine hQO [0] _ _ (GC.step (Ghost.cut (l := 0) rfl out.length) (GC.now ?_)) <;> simp only [Tryz.f174, go_sem, List.nodup_cons, List.nodup_nil, List.mem_cons, List.not_mem_nil, or_false, not_false_eq_true, List.idxOf?_cons, List.idxOf?_nil, Option.map_none, hA, e1, e6, e7, e17, htk]
      exact hk
theorem lots_pw {xs : List Lot} (h : lotsOk xs = true) : xs.Pairwise (fun x y => lotLt x y = true) := by
  rw [lotsOk, Bool.and_eq_true] at h
  rw [List.pairwise_iff_getElem]
  intro i j hi hj hij
  obtain ⟨d, rfl⟩ : ∃ d, j = i + d + 1 := ⟨j - i - 1, by omega⟩
  exact okL_mono lotLt_tr h.1 d i hj
theorem o_lotsOf (xs : List Lot) (a n : Int) (hn : xs.length ≤ 1000000000) (K : AV → AH → Prop) (hk : K (.one (.sl 0 0 0 (ownL xs a n).length)) [.own 0 112 5 none ((ownL xs a n).map lotC)]) : ACalls Tryz.prog 171 [(.one (.im (xs.map lotC))), (.one (.c (.int .i64 (a)))), (.one (.c (.int .i64 (n))))] [] K := by
  refine acall_c Tryz.f171.results.toList mixed Tryz.func171 rfl rfl (by kernel_rfl) ?_
  intro Q hQ hQO
  simp only [go_sem]
  (try simp only [go_sem]); repeat' (first | (with_reducible first | refine c_split ?_ ?_ | refine w_split ?_ ?_) <;> intro hb <;> try simp only [go_sem, hb] | refine call_c (c_CloneLot xs hn _ (fun cap => ?_)) <;> try simp only [go_sem] | fail)
  refine call_h (c_DeleteFuncLot xs 2 0 cap _ _ (fun x => !lotIs a n x) _ rfl hn ?_ (by decide) rfl _ (fun rest => ?_))
  · intro h1 x K' hcap hk'
    refine .inr (.inl ⟨rfl, c_lotsOf1 x a n h1 0 1 ?_ ?_ _ hk'⟩)
    · exact (hcap 0 (by simp)).trans rfl
    · exact (hcap 1 (by simp)).trans rfl
  · have hff : (xs.filter fun x => !!lotIs a n x) = ownL xs a n := by unfold ownL; congr 1; funext x; simp
    simp only [hff]
    simp only [go_sem]
    (try simp only [go_sem]); repeat' (first | (with_reducible first | refine c_split ?_ ?_ | refine w_split ?_ ?_) <;> intro hb <;> try simp only [go_sem, hb] | fail)
    have htk : (List.map lotC (ownL xs a n ++ rest)).take (ownL xs a n).length = (ownL xs a n).map lotC := by rw [← List.map_take, List.take_left]
    refine hQO [2] _ _ (GC.step (Ghost.cut (l := 2) rfl (ownL xs a n).length) (GC.now ?_)) <;> simp only [Tryz.f171, go_sem, List.nodup_cons, List.nodup_nil, List.mem_cons, List.not_mem_nil, or_false, not_false_eq_true, List.idxOf?_cons, List.idxOf?_nil, Option.map_none, htk]
    exact hk
theorem c_meanLots (own : List Lot) (qty : Int) (hf : Fine own) (hq1 : 1 ≤ qty) (hq2 : qty ≤ sumQ own) (h : 0 < own.length) (K : AV → AH → Prop) (hk : K (.tup [.one (.sl 0 0 0 (meanL own qty).length), (.one (.c (.int .i64 (mdQ (sumC own) qty (sumQ own)))))]) [.own 0 112 5 none ((meanL own qty).map lotC)]) : ACalls Tryz.prog 176 [(.one (.im (own.map lotC))), (.one (.c (.int .i64 (qty))))] [] K := by
  have hs := sums_le own hf.1
  have hfl := hf.2
  obtain ⟨rm, okm, hmd⟩ := mdV_q (sumC own) qty (sumQ own)
  have hmq := mdQ_le (a := sumC own) (b := qty) (c := sumQ own) hs.2.1 (by omega) hq2 (by omega)
  have w1 : wrap64 (sumQ own - qty) = sumQ own - qty := wrap_id _ (by omega) (by omega)
  have w2 : wrap64 (sumC own - mdQ (sumC own) qty (sumQ own)) = sumC own - mdQ (sumC own) qty (sumQ own) := wrap_id _ (by omega) (by omega)
  have hg : own[0]? = some own[0] := List.getElem?_eq_getElem h
  have z1 : (0 : Int) ≤ 0 := by decide
  have z2 : (0 : Int) < (own.length : Int) := by omega
  have z3 : Int.toNat 0 = 0 := rfl
  unfold meanL at hk
  have cM := c_impl_MulDiv (sumC own) qty (sumQ own)
  rw [hmd] at cM
  clear hs hfl hmd hmq
  by_cases he : sumQ own = qty
  · rw [if_pos he] at hk
    have d1 : (sumQ own == qty) = true := by rw [he]; exact BEq.rfl
    refine acall_c Tryz.f176.results.toList mixed Tryz.func176 rfl rfl (by kernel_rfl) ?_
    intro Q hQ hQO
    simp only [go_sem]
    (try simp only [go_sem, d1]); repeat' (first | (with_reducible first | refine c_split ?_ ?_ | refine w_split ?_ ?_) <;> intro hb <;> try simp only [go_sem, hb, d1] | (first | refine call_c (c_sumLots own hf _ ?_) | refine call_c (cM _ ?_) | fail) <;> try simp only [go_sem, d1] | fail)
    refine hQO [0] _ _ (GC.step (Ghost.nlr 4 (by simp only [go_sem]) 112 5) (GC.now ?_)) <;> simp only [Tryz.f176, go_sem, List.nodup_cons, List.nodup_nil, List.mem_cons, List.not_mem_nil, or_false, not_false_eq_true, List.idxOf?_cons, List.idxOf?_nil, Option.map_none]
    exact hk
  · rw [if_neg he, hg] at hk
    have d1 : (sumQ own == qty) = false := beq_eq_false_iff_ne.2 he
    refine acall_c Tryz.f176.results.toList mixed Tryz.func176 rfl rfl (by kernel_rfl) ?_
    intro Q hQ hQO
    simp only [go_sem]
    (try simp only [go_sem, d1, w1, w2, tiO_some, z1, z2, z3, hg]); repeat' (first | (with_reducible first | refine c_split ?_ ?_ | refine w_split ?_ ?_) <;> intro hb <;> try simp only [go_sem, hb, d1, w1, w2, tiO_some, z1, z2, z3, hg] | (first | refine call_c (c_sumLots own hf _ ?_) | refine call_c (cM _ ?_) | fail) <;> try simp only [go_sem, d1, w1, w2, tiO_some, z1, z2, z3, hg] | fail)
    refine hQO [1] _ _ (GC.step (Ghost.cut (l := 1) rfl 1) (GC.now ?_)) <;> simp only [Tryz.f176, go_sem, List.nodup_cons, List.nodup_nil, List.mem_cons, List.not_mem_nil, or_false, not_false_eq_true, List.idxOf?_cons, List.idxOf?_nil, Option.map_none]
    exact hk
theorem rev_sub {xs ys : List Lot} (h : (ys.map keyL).Sublist (xs.reverse.map keyL)) : (ys.reverse.map keyL).Sublist (xs.map keyL) := by
  have := h.reverse
  rw [← List.map_reverse, ← List.map_reverse, List.reverse_reverse] at this
  exact this
def leftI (own : List Lot) (q way : Int) : List Lot := if way = 1 then (takeF own q).1 else if way = 2 then (takeF own.reverse q).1 else meanL own q
def costI (own : List Lot) (q way : Int) : Int := if way = 1 then (takeF own q).2 else if way = 2 then (takeF own.reverse q).2 else mdQ (sumC own) q (sumQ own)
theorem left_take {xs : List Lot} {a n q way : Int} (h : lotsOk xs = true) (hq : 1 ≤ q ∧ q ≤ 1000000000000000) (hw : 1 ≤ way ∧ way ≤ 3) (hs : ¬ sumQ (ownL xs a n) < q) {R : Array Lot} (hp : Go.Sort.PermIn 0 (restL xs a n ++ leftI (ownL xs a n) q way).length (restL xs a n ++ leftI (ownL xs a n) q way).toArray R) (hS : Go.Sort.SortedIn lotLt 0 R.size R) :
    takeR xs a n q way = (R.toList, costI (ownL xs a n) q way, 0) := by
  have hpos : ∀ x ∈ ownL xs a n, 1 ≤ x.qty := fun x hx => by
    have := lots_pos h x (List.mem_filter.1 hx).1
    simp only [lotP, Bool.and_eq_true, decide_eq_true_eq] at this
    exact this.1.2.1
  have hpw := lots_pw h
  have hsz : (restL xs a n ++ leftI (ownL xs a n) q way).toArray.size = (restL xs a n ++ leftI (ownL xs a n) q way).length := by simp
  rw [← hsz] at hp
  unfold takeR
  rw [if_pos ⟨h, hq, hw⟩, if_neg hs]
  by_cases h3 : way = 3
  · subst h3
    rw [if_pos rfl]
    have hm := with_merge (zs := leftI (ownL xs a n) q 3) (ys := meanL (ownL xs a n) q) hpw (mean_keys _ _) (List.Perm.refl _) rfl hp hS
    rw [hm]; rfl
  rw [if_neg h3]
  by_cases h2 : way = 2
  · subst h2
    have e := takeN_L (ownL xs a n).reverse (ownL xs a n).length q (by omega) (by simp) (fun x hx => hpos x (List.mem_reverse.1 hx))
    rw [List.reverse_reverse] at e
    have hm := with_merge (zs := leftI (ownL xs a n) q 2) (ys := (takeF (ownL xs a n).reverse q).1.reverse) hpw (rev_sub (takeF_keys _ _)) (List.reverse_perm _).symm rfl hp hS
    rw [hm, e]; rfl
  · have h1 : way = 1 := by omega
    subst h1
    have e := takeN_F (way := 1) (by decide) (ownL xs a n) (ownL xs a n).length q (by omega) (Nat.le_refl _) hpos
    have hm := with_merge (zs := leftI (ownL xs a n) q 1) (ys := (takeF (ownL xs a n) q).1) hpw (takeF_keys _ _) (List.Perm.refl _) rfl hp hS
    rw [hm, e]; rfl
theorem left_len (own : List Lot) (q way : Int) : (leftI own q way).length ≤ own.length := by
  unfold leftI
  have h1 := (takeF_keys own q).length_le
  have h2 := (takeF_keys own.reverse q).length_le
  have h3 := (mean_keys own q).length_le
  simp only [List.length_map, List.length_reverse] at h1 h2 h3
  split
  · exact h1
  · split
    · exact h2
    · exact h3
theorem rest_own (xs : List Lot) (a n : Int) : (restL xs a n).length + (ownL xs a n).length = xs.length := by
  unfold restL ownL
  induction xs with
  | nil => rfl
  | cons x r ih =>
    cases h : lotIs a n x
    · rw [List.filter_cons_of_pos (by rw [h]; rfl), List.filter_cons_of_neg (by rw [h]; decide), List.length_cons, List.length_cons]; omega
    · rw [List.filter_cons_of_neg (by rw [h]; decide), List.filter_cons_of_pos h, List.length_cons, List.length_cons]; omega
set_option maxHeartbeats 4000000 in
theorem c_impl_LotTake (xs : List Lot) (a n q way : Int) (hn : xs.length ≤ 1000000000) (K : AV → AH → Prop) (hk : K (.tup [.one (.sl 0 0 0 (takeR xs a n q way).1.length), (.one (.c (.int .i64 ((takeR xs a n q way).2.1)))), (.one (.c (.int .i64 ((takeR xs a n q way).2.2))))]) [.own 0 112 5 none ((takeR xs a n q way).1.map lotC)]) : ACalls Tryz.prog 82 [(.one (.im (xs.map lotC))), (.one (.c (.int .i64 (a)))), (.one (.c (.int .i64 (n)))), (.one (.c (.int .i64 (q)))), (.one (.c (.int .i64 (way))))] [] K := by
  cases o1 : lotsOk xs with
  | false =>
    have hr : takeR xs a n q way = ([], 0, 1) := by unfold takeR; rw [if_neg (fun h => by rw [o1] at h; exact absurd h.1 (by decide))]
    rw [hr] at hk
    refine acall_c Tryz.f82.results.toList mixed Tryz.func82 rfl rfl (by kernel_rfl) ?_
    intro Q hQ hQO
    simp only [go_sem]
    (try simp only [go_sem, o1]); repeat' (first | (with_reducible first | refine c_split ?_ ?_ | refine w_split ?_ ?_) <;> intro hb <;> try simp only [go_sem, hb, o1] | refine call_c (c_impl_LotsOk xs hn _ ?_) <;> try simp only [go_sem, o1] | fail)
    refine hQO [0] _ _ (GC.step (Ghost.nlr 10 (by simp only [go_sem]) 112 5) (GC.now ?_)) <;> simp only [Tryz.f82, go_sem, List.nodup_cons, List.nodup_nil, List.mem_cons, List.not_mem_nil, or_false, not_false_eq_true, List.idxOf?_cons, List.idxOf?_nil, Option.map_none]
    exact hk
  | true =>
  cases o2 : decide (1 ≤ q ∧ q ≤ 1000000000000000) with
  | false =>
    have hr : takeR xs a n q way = ([], 0, 1) := by unfold takeR; rw [if_neg (fun h => of_decide_eq_false o2 h.2.1)]
    rw [hr] at hk
    refine acall_c Tryz.f82.results.toList mixed Tryz.func82 rfl rfl (by kernel_rfl) ?_
    intro Q hQ hQO
    simp only [go_sem]
    (try simp only [go_sem, o1, o2]); repeat' (first | (with_reducible first | refine c_split ?_ ?_ | refine w_split ?_ ?_) <;> intro hb <;> try simp only [go_sem, hb, o1, o2] | (first | refine call_c (c_impl_LotsOk xs hn _ ?_) | refine call_c (c_in _ _ _ _ ?_) | fail) <;> try simp only [go_sem, o1, o2] | fail)
    refine hQO [0] _ _ (GC.step (Ghost.nlr 10 (by simp only [go_sem]) 112 5) (GC.now ?_)) <;> simp only [Tryz.f82, go_sem, List.nodup_cons, List.nodup_nil, List.mem_cons, List.not_mem_nil, or_false, not_false_eq_true, List.idxOf?_cons, List.idxOf?_nil, Option.map_none]
    exact hk
  | true =>
  cases o3 : decide (1 ≤ way ∧ way ≤ 3) with
  | false =>
    have hr : takeR xs a n q way = ([], 0, 1) := by unfold takeR; rw [if_neg (fun h => of_decide_eq_false o3 h.2.2)]
    rw [hr] at hk
    refine acall_c Tryz.f82.results.toList mixed Tryz.func82 rfl rfl (by kernel_rfl) ?_
    intro Q hQ hQO
    simp only [go_sem]
    (try simp only [go_sem, o1, o2, o3]); repeat' (first | (with_reducible first | refine c_split ?_ ?_ | refine w_split ?_ ?_) <;> intro hb <;> try simp only [go_sem, hb, o1, o2, o3] | (first | refine call_c (c_impl_LotsOk xs hn _ ?_) | refine call_c (c_in _ _ _ _ ?_) | fail) <;> try simp only [go_sem, o1, o2, o3] | fail)
    refine hQO [0] _ _ (GC.step (Ghost.nlr 10 (by simp only [go_sem]) 112 5) (GC.now ?_)) <;> simp only [Tryz.f82, go_sem, List.nodup_cons, List.nodup_nil, List.mem_cons, List.not_mem_nil, or_false, not_false_eq_true, List.idxOf?_cons, List.idxOf?_nil, Option.map_none]
    exact hk
  | true =>
  have hq := of_decide_eq_true o2
  have hw := of_decide_eq_true o3
  have hf := (lots_fine o1).own a n
  have hxl := (lots_fine o1).2
  by_cases hs : sumQ (ownL xs a n) < q
  · have d1 : decide (sumQ (ownL xs a n) < q) = true := decide_eq_true hs
    have hr : takeR xs a n q way = (xs, 0, 2) := by unfold takeR; rw [if_pos ⟨o1, hq, hw⟩, if_pos hs]
    rw [hr] at hk
    have htk : List.take (ownL xs a n).length (List.map lotC (ownL xs a n)) = List.map lotC (ownL xs a n) := List.take_of_length_le (by simp)
    refine acall_c Tryz.f82.results.toList mixed Tryz.func82 rfl rfl (by kernel_rfl) ?_
    intro Q hQ hQO
    simp only [go_sem]
    (try simp only [go_sem, o1, o2, o3, d1, htk]); repeat' (first | (with_reducible first | refine c_split ?_ ?_ | refine w_split ?_ ?_) <;> intro hb <;> try simp only [go_sem, hb, o1, o2, o3, d1, htk] | (first | refine call_c (c_impl_LotsOk xs hn _ ?_) | refine call_c (c_in _ _ _ _ ?_) | refine call_c (o_lotsOf xs a n hn _ ?_) | refine call_c (c_sumLots _ hf _ ?_) | refine call_c (c_CloneLot xs hn _ (fun cap => ?_)) | fail) <;> try simp only [go_sem, o1, o2, o3, d1, htk] | fail)
    have htx : (xs.map lotC).take xs.length = xs.map lotC := List.take_of_length_le (by simp)
    refine hQO [1] _ _ (GC.step (Ghost.cut (l := 1) rfl xs.length) (GC.now ?_)) <;> simp only [Tryz.f82, go_sem, List.nodup_cons, List.nodup_nil, List.mem_cons, List.not_mem_nil, or_false, not_false_eq_true, List.idxOf?_cons, List.idxOf?_nil, Option.map_none, htx]
    exact hk
  · have d1 : decide (sumQ (ownL xs a n) < q) = false := decide_eq_false hs
    have hpos : ∀ x ∈ ownL xs a n, 1 ≤ x.qty := fun x hx => by
      have := lots_pos o1 x (List.mem_filter.1 hx).1
      simp only [lotP, Bool.and_eq_true, decide_eq_true_eq] at this
      exact this.1.2.1
    have h0 : 0 < (ownL xs a n).length := by
      rcases Nat.eq_zero_or_pos (ownL xs a n).length with e | e
      · have := List.length_eq_zero_iff.1 e
        rw [this] at hs
        exact absurd hs (by rw [sum_nil.1]; omega)
      · exact e
    have hro := rest_own xs a n
    have hll := left_len (ownL xs a n) q way
    have hwn : (restL xs a n).length + (leftI (ownL xs a n) q way).length ≤ 1000 := by omega
    have hfin := fun R p s => left_take (R := R) o1 hq hw hs p s
    have htk : List.take (ownL xs a n).length (List.map lotC (ownL xs a n)) = List.map lotC (ownL xs a n) := List.take_of_length_le (by simp)
    have cW := c_withLots xs (leftI (ownL xs a n) q way) a n hwn hxl
    have hol : (ownL xs a n).length ≤ 1000 := by omega
    have hq1 := hq.1
    have hq0 : 0 ≤ q ∧ q ≤ 1000000000000000 := ⟨by omega, hq.2⟩
    have hsq : q ≤ sumQ (ownL xs a n) := by omega
    have hltk : ∀ ys : List Lot, List.take ys.length (List.map lotC ys) = List.map lotC ys := fun ys => List.take_of_length_le (by simp)
    have cO := o_lotsOf xs a n hn
    generalize ownL xs a n = own at *
    have dlit1 : ((1 : Int) == 1) = true := rfl
    by_cases w1 : way = 1
    · subst w1
      have e1 : leftI own q 1 = (takeF own q).1 := rfl
      have e2 : costI own q 1 = (takeF own q).2 := rfl
      rw [e1] at cW hfin
      rw [e2] at hfin
      refine acall_c Tryz.f82.results.toList mixed Tryz.func82 rfl rfl (by kernel_rfl) ?_
      intro Q hQ hQO
      simp only [go_sem]
      (try simp only [go_sem, o1, o2, o3, d1, htk, hltk]); repeat' (first | (with_reducible first | refine c_split ?_ ?_ | refine w_split ?_ ?_) <;> intro hb <;> try simp only [go_sem, hb, o1, o2, o3, d1, htk, hltk] | (first | refine call_c (c_impl_LotsOk xs hn _ ?_) | refine call_c (c_in _ _ _ _ ?_) | refine call_c (cO _ ?_) | refine call_c (c_sumLots _ hf _ ?_) | refine call_c (c_takeLots own q hf hpos hq0 _ ?_) | refine call_c (cW _ (fun R p s => ?_)) | fail) <;> try simp only [go_sem, o1, o2, o3, d1, htk, hltk] | fail)
      rw [hfin _ p s] at hk
      refine hQO [2] _ _ (GC.now ?_) <;> simp only [Tryz.f82, go_sem, List.nodup_cons, List.nodup_nil, List.mem_cons, List.not_mem_nil, or_false, not_false_eq_true, List.idxOf?_cons, List.idxOf?_nil, Option.map_none]
      exact hk
    by_cases w2 : way = 2
    · subst w2
      have e1 : leftI own q 2 = (takeF own.reverse q).1 := rfl
      have e2 : costI own q 2 = (takeF own.reverse q).2 := rfl
      rw [e1] at cW hfin
      rw [e2] at hfin
      have hfr : Fine own.reverse := ⟨fun x hx => hf.1 x (List.mem_reverse.1 hx), by rw [List.length_reverse]; exact hf.2⟩
      have cT := c_takeLots own.reverse q hfr (fun x hx => hpos x (List.mem_reverse.1 hx)) hq0
      have hrl : own.reverse.length = own.length := List.length_reverse
      have htr : List.take own.length (List.map lotC own.reverse) = List.map lotC own.reverse := List.take_of_length_le (by simp)
      refine acall_c Tryz.f82.results.toList mixed Tryz.func82 rfl rfl (by kernel_rfl) ?_
      intro Q hQ hQO
      simp only [go_sem]
      (try simp only [go_sem, o1, o2, o3, d1, htk, hltk]); repeat' (first | (with_reducible first | refine c_split ?_ ?_ | refine w_split ?_ ?_) <;> intro hb <;> try simp only [go_sem, hb, o1, o2, o3, d1, htk, hltk] | (first | refine call_c (c_impl_LotsOk xs hn _ ?_) | refine call_c (c_in _ _ _ _ ?_) | refine call_c (cO _ ?_) | refine call_c (c_sumLots _ hf _ ?_) | fail) <;> try simp only [go_sem, o1, o2, o3, d1, htk, hltk] | fail)
      refine call_f _ (f_Reverse own 0 none h0 hol _ 0 rfl _ ?_)
      have hle : own.length ≤ own.reverse.length := by rw [hrl]; exact Nat.le_refl _
      (try simp only [go_sem, htr, hltk, hle]); repeat' (first | (with_reducible first | refine c_split ?_ ?_ | refine w_split ?_ ?_) <;> intro hb <;> try simp only [go_sem, hb, htr, hltk, hle] | (first | refine call_c (cT _ ?_) | refine call_c (cW _ (fun R p s => ?_)) | fail) <;> try simp only [go_sem, htr, hltk, hle] | fail)
      rw [hfin _ p s] at hk
      refine hQO [2] _ _ (GC.now ?_) <;> simp only [Tryz.f82, go_sem, List.nodup_cons, List.nodup_nil, List.mem_cons, List.not_mem_nil, or_false, not_false_eq_true, List.idxOf?_cons, List.idxOf?_nil, Option.map_none]
      exact hk
    · have w3 : way = 3 := by clear cW hfin cO; omega
      subst w3
      have e1 : leftI own q 3 = meanL own q := rfl
      have e2 : costI own q 3 = mdQ (sumC own) q (sumQ own) := rfl
      rw [e1] at cW hfin
      rw [e2] at hfin
      refine acall_c Tryz.f82.results.toList mixed Tryz.func82 rfl rfl (by kernel_rfl) ?_
      intro Q hQ hQO
      simp only [go_sem]
      (try simp only [go_sem, o1, o2, o3, d1, htk, hltk]); repeat' (first | (with_reducible first | refine c_split ?_ ?_ | refine w_split ?_ ?_) <;> intro hb <;> try simp only [go_sem, hb, o1, o2, o3, d1, htk, hltk] | (first | refine call_c (c_impl_LotsOk xs hn _ ?_) | refine call_c (c_in _ _ _ _ ?_) | refine call_c (cO _ ?_) | refine call_c (c_sumLots _ hf _ ?_) | refine call_c (c_meanLots own q hf hq1 hsq h0 _ ?_) | refine call_c (cW _ (fun R p s => ?_)) | fail) <;> try simp only [go_sem, o1, o2, o3, d1, htk, hltk] | fail)
      rw [hfin _ p s] at hk
      refine hQO [2] _ _ (GC.now ?_) <;> simp only [Tryz.f82, go_sem, List.nodup_cons, List.nodup_nil, List.mem_cons, List.not_mem_nil, or_false, not_false_eq_true, List.idxOf?_cons, List.idxOf?_nil, Option.map_none]
      exact hk
end Go.Proofs.YtkndmncgohmjmaaGreat
end
section
namespace Go.Proofs.YtkndmncgohmjmaaGreat
open Go.BL Go.RowKit
set_option linter.unusedVariables false
set_option linter.unusedSimpArgs false
set_option maxRecDepth 100000
attribute [local go_sem] accountC balC lotC tradeC booksC
theorem c_szBooksG (b : Books) (h : Large b) (left : Int) (q0 : 0 ≤ left) (q1 : left ≤ 1048576) (K : AV → AH → Prop) (hk : ∀ r, (0 ≤ r → Small b) → K (.one (.c (.int .i64 (r)))) []) : ACalls Tryz.prog 17 [.agg (booksC b), (.one (.c (.int .i64 (left))))] [] K := by
  refine acall_c Tryz.f17.results.toList mixed Tryz.func17 rfl rfl (by kernel_rfl) ?_
  intro Q hQ hQO
  simp only [go_sem]
  (try simp only [go_sem]); repeat' (first | (with_reducible first | refine c_split ?_ ?_ | refine w_split ?_ ?_) <;> intro hb <;> try simp only [go_sem, hb] | refine call_c (c_szAccountS _ _ h.ha q0 q1 _ (fun r1 hr1 => ?_)) <;> try simp only [go_sem] | fail)
  · (try simp only [go_sem]); repeat' (first | (with_reducible first | refine c_split ?_ ?_ | refine w_split ?_ ?_) <;> intro hb <;> try simp only [go_sem, hb] | with_reducible refine hQ _ _ ?_ <;> simp only [Tryz.f17, go_sem])
    exact hk _ (fun q => by omega)
  have n1 : 0 ≤ r1 := by have := of_decide_eq_false hb; omega
  have m1 := hr1 n1
  clear hb
  (try simp only [go_sem]); repeat' (first | (with_reducible first | refine c_split ?_ ?_ | refine w_split ?_ ?_) <;> intro hb <;> try simp only [go_sem, hb] | refine call_c (c_szInstrS _ _ h.hi n1 (by omega) _ (fun r2 hr2 => ?_)) <;> try simp only [go_sem] | fail)
  · (try simp only [go_sem]); repeat' (first | (with_reducible first | refine c_split ?_ ?_ | refine w_split ?_ ?_) <;> intro hb <;> try simp only [go_sem, hb] | with_reducible refine hQ _ _ ?_ <;> simp only [Tryz.f17, go_sem])
    exact hk _ (fun q => by omega)
  have n2 : 0 ≤ r2 := by have := of_decide_eq_false hb; omega
  have m2 := hr2 n2
  clear hb
  (try simp only [go_sem]); repeat' (first | (with_reducible first | refine c_split ?_ ?_ | refine w_split ?_ ?_) <;> intro hb <;> try simp only [go_sem, hb] | refine call_c (c_szBalS _ _ h.hb n2 (by omega) _ (fun r3 hr3 => ?_)) <;> try simp only [go_sem] | fail)
  · (try simp only [go_sem]); repeat' (first | (with_reducible first | refine c_split ?_ ?_ | refine w_split ?_ ?_) <;> intro hb <;> try simp only [go_sem, hb] | with_reducible refine hQ _ _ ?_ <;> simp only [Tryz.f17, go_sem])
    exact hk _ (fun q => by omega)
  have n3 : 0 ≤ r3 := by have := of_decide_eq_false hb; omega
  have m3 := hr3 n3
  clear hb
  (try simp only [go_sem]); repeat' (first | (with_reducible first | refine c_split ?_ ?_ | refine w_split ?_ ?_) <;> intro hb <;> try simp only [go_sem, hb] | refine call_c (c_szLotS _ _ h.hl n3 (by omega) _ (fun r4 hr4 => ?_)) <;> try simp only [go_sem] | fail)
  · (try simp only [go_sem]); repeat' (first | (with_reducible first | refine c_split ?_ ?_ | refine w_split ?_ ?_) <;> intro hb <;> try simp only [go_sem, hb] | with_reducible refine hQ _ _ ?_ <;> simp only [Tryz.f17, go_sem])
    exact hk _ (fun q => by omega)
  have n4 : 0 ≤ r4 := by have := of_decide_eq_false hb; omega
  have m4 := hr4 n4
  clear hb
  (try simp only [go_sem]); repeat' (first | (with_reducible first | refine c_split ?_ ?_ | refine w_split ?_ ?_) <;> intro hb <;> try simp only [go_sem, hb] | refine call_c (c_szTradeS _ _ h.ht n4 (by omega) _ (fun r5 hr5 => ?_)) <;> try simp only [go_sem] | fail)
  · (try simp only [go_sem]); repeat' (first | (with_reducible first | refine c_split ?_ ?_ | refine w_split ?_ ?_) <;> intro hb <;> try simp only [go_sem, hb] | with_reducible refine hQ _ _ ?_ <;> simp only [Tryz.f17, go_sem])
    exact hk _ (fun q => by omega)
  have n5 : 0 ≤ r5 := by have := of_decide_eq_false hb; omega
  have m5 := hr5 n5
  (try simp only [go_sem]); repeat' (first | (with_reducible first | refine c_split ?_ ?_ | refine w_split ?_ ?_) <;> intro hb <;> try simp only [go_sem, hb] | with_reducible refine hQ _ _ ?_ <;> simp only [Tryz.f17, go_sem])
  exact hk _ (fun q => ⟨by omega, by omega, by omega, by omega, by omega⟩)
theorem c_szBooks (b : Books) (h : Large b) (K : AV → AH → Prop) (hk : ∀ r, (0 ≤ r → Small b) → K (.one (.c (.int .i64 (r)))) []) : ACalls Tryz.prog 17 [.agg (booksC b), (.one (.c (.int .i64 (1048576))))] [] K := c_szBooksG b h _ (by decide) (by decide) K hk
def booksA (b : Books) : AV := .agg [.sl 0 0 0 b.accounts.length, .sl 1 0 0 b.instrs.length, .sl 2 0 0 b.bals.length, .sl 3 0 0 b.lots.length, .sl 4 0 0 b.trades.length, .c (.int .i64 (b.lot))]
theorem c_toBooks (b : Books) (hs : Small b) (K : AV → AH → Prop) (hk : K (booksA b) [.own 0 104 2 (some b.accounts.length) (b.accounts.map accountC), .own 0 106 2 (some b.instrs.length) (b.instrs.map accountC), .own 0 109 3 (some b.bals.length) (b.bals.map balC), .own 0 112 5 (some b.lots.length) (b.lots.map lotC), .own 0 115 8 (some b.trades.length) (b.trades.map tradeC)]) : ACalls Tryz.prog 19 [.agg (booksC b)] [] K := by
  refine acall_c Tryz.f19.results.toList mixed Tryz.func19 rfl rfl (by kernel_rfl) ?_
  intro Q hQ hQO
  simp only [go_sem]
  (try simp only [go_sem]); repeat' (first | (with_reducible first | refine c_split ?_ ?_ | refine w_split ?_ ?_) <;> intro hb <;> try simp only [go_sem, hb] | (first | refine call_c (c_toAccountS _ hs.ha _ ?_) | refine call_c (c_toInstrS _ hs.hi _ ?_) | refine call_c (c_toBalS _ hs.hb _ ?_) | refine call_c (c_toLotS _ hs.hl _ ?_) | refine call_c (c_toTradeS _ hs.ht _ ?_) | fail) <;> try simp only [go_sem] | fail)
  refine hQO [3, 4, 5, 6, 7] _ _ (GC.now ?_) <;> simp only [Tryz.f19, go_sem, List.nodup_cons, List.nodup_nil, List.mem_cons, List.not_mem_nil, or_false, not_false_eq_true, List.idxOf?_cons, List.idxOf?_nil, Option.map_none]
  exact hk
theorem c_eqBooks (b : Books) (hs : Small b) (K : AV → AH → Prop) (hk : K (.one (.c (.bool (true)))) []) : ACalls Tryz.prog 21 [.agg (booksC b), .agg (booksC b)] [] K := by
  refine acall_c Tryz.f21.results.toList mixed Tryz.func21 rfl rfl (by kernel_rfl) ?_
  intro Q hQ hQO
  simp only [go_sem]
  (try simp only [go_sem, BEq.rfl]); repeat' (first | (with_reducible first | refine c_split ?_ ?_ | refine w_split ?_ ?_) <;> intro hb <;> try simp only [go_sem, hb, BEq.rfl] | (first | refine call_c (c_eqAccountS _ hs.ha _ ?_) | refine call_c (c_eqInstrS _ hs.hi _ ?_) | refine call_c (c_eqBalS _ hs.hb _ ?_) | refine call_c (c_eqLotS _ hs.hl _ ?_) | refine call_c (c_eqTradeS _ hs.ht _ ?_) | fail) <;> try simp only [go_sem, BEq.rfl] | with_reducible refine hQ _ _ ?_ <;> simp only [Tryz.f21, go_sem, BEq.rfl])
  exact hk
end Go.Proofs.YtkndmncgohmjmaaGreat
end
section
namespace Go.Proofs.YtkndmncgohmjmaaGreat
open Go.BL Go.RowKit
set_option linter.unusedVariables false
set_option linter.unusedSimpArgs false
set_option maxRecDepth 100000
theorem ownL_lots {xs : List Lot} (h : lotsOk xs = true) (a n : Int) : (∀ x ∈ ownL xs a n, lotP x = true) ∧ (ownL xs a n ≠ [] → sumQ (ownL xs a n) ≤ 1000000000000000 ∧ sumC (ownL xs a n) ≤ 1000000000000000) := by
  refine ⟨fun x hx => lots_pos h x (List.mem_filter.1 hx).1, fun hne => ?_⟩
  obtain ⟨x, hx⟩ := List.exists_mem_of_ne_nil _ hne
  obtain ⟨hm, hi⟩ := List.mem_filter.1 hx
  rw [lotIs_iff] at hi
  rw [lotsOk, Bool.and_eq_true] at h
  have hb : badLot xs x = false := by
    cases hb : badLot xs x with
    | false => rfl
    | true => have := findG_hit hm hb; simp [this] at h
  simp only [badLot, Bool.or_eq_false_iff, Bool.not_eq_false', hi.1, hi.2] at hb
  have h1 : _ ∧ _ := of_decide_eq_true hb.1
  have h2 : _ ∧ _ := of_decide_eq_true hb.2
  exact ⟨h1.2, h2.2⟩
theorem takeN_cost (way : Int) : ∀ (n : Nat) (own : List Lot) (q c : Int), Whole own q c → 0 ≤ (takeN way n own q).2 ∧ (takeN way n own q).2 ≤ 1000000000000000 * (n : Int)
  | 0, _, _, _, _ => by simp [takeN]
  | n + 1, own, q, c, h => by
    rw [takeN]
    split
    · rename_i hq
      have hk := atW_lt (way := way) (h.ne hq)
      have ih := takeN_cost way n _ _ _ (h.step hq _ hk)
      have hp := h.pos _ (List.getElem_mem hk)
      have hf := h.fine.1 _ (List.getElem_mem hk)
      have hm := mdQ_le (a := own[atW way own].cost) (b := min own[atW way own].qty q) (c := own[atW way own].qty) hf.2.1 (by omega) (by omega) (by omega)
      rw [List.getElem?_eq_getElem hk]
      simp only
      omega
    · simp; omega
theorem takeR_cost (xs : List Lot) (a n q way : Int) : 0 ≤ (takeR xs a n q way).2.1 ∧ (takeR xs a n q way).2.1 ≤ 120000000000000000 := by
  unfold takeR
  split
  · rename_i h
    obtain ⟨o1, hq, hw⟩ := h
    obtain ⟨h3, h4⟩ := ownL_lots o1 a n
    have hfine := (lots_fine o1).own a n
    have hlen : (ownL xs a n).length ≤ 120 := by
      rw [lotsOk, Bool.and_eq_true] at o1
      have := okL_len o1.1
      have := List.length_filter_le (lotIs a n) xs
      unfold ownL
      omega
    split
    · simp
    · rename_i hs
      have hne : ownL xs a n ≠ [] := fun e => by rw [e, sum_nil.1] at hs; omega
      have hpos : ∀ x ∈ ownL xs a n, 1 ≤ x.qty := fun x hx => (by have h := h3 x hx; simp only [lotP, Bool.and_eq_true, decide_eq_true_eq] at h; omega)
      have hsum := sums_le (ownL xs a n) hfine.1
      have h5 := h4 hne
      split
      · have := mdQ_le (a := sumC (ownL xs a n)) (b := q) (c := sumQ (ownL xs a n)) hsum.2.1 (by omega) (by omega) (by omega)
        show 0 ≤ mdQ _ _ _ ∧ mdQ _ _ _ ≤ _
        omega
      · have := takeN_cost way (ownL xs a n).length (ownL xs a n) q 0 ⟨hfine, hpos, by omega, by omega, by omega, by omega⟩
        show 0 ≤ (takeN _ _ _ _).2 ∧ (takeN _ _ _ _).2 ≤ _
        omega
  · simp
end Go.Proofs.YtkndmncgohmjmaaGreat
end
section
namespace Go.Proofs.YtkndmncgohmjmaaGreat
open Go.BL Go.RowKit
set_option linter.unusedVariables false
set_option linter.unusedSimpArgs false
set_option maxRecDepth 100000
theorem d4_0_LGainIf : DrawL Tryz.prog 0 55 (.on [(0, true, true), (1, false, false), (2, false, false), (3, false, true), (4, false, true)] .nil) := draw_L
attribute [local go_sem] accountC balC lotC tradeC booksC booksA
def gainR (b : Books) (a n q p way : Int) : Int × Bool :=
  if booksOk b = true then
    if 0 ≤ p ∧ p ≤ 1000000000000000 then
      if (takeR b.lots a n q way).2.2 = 0 then (p - (takeR b.lots a n q way).2.1, true) else (0, false)
    else (0, false)
  else (0, false)
theorem gain_fit {xs : List Lot} {a n q way p : Int} (h : 0 ≤ p ∧ p ≤ 1000000000000000) : -9223372036854775808 ≤ p - (takeR xs a n q way).2.1 ∧ p - (takeR xs a n q way).2.1 ≤ 9223372036854775807 := by
  have := takeR_cost xs a n q way
  omega
theorem lots_n {b : Books} (hs : Small b) : b.lots.length ≤ 1000000000 := by
  have := hs.hl
  omega
theorem c_GainIf (b : Books) (a n q p way : Int) (hs : Small b) (K : AV → AH → Prop) (hk : K (.tup [(.one (.c (.int .i64 ((gainR b a n q p way).1)))), (.one (.c (.bool ((gainR b a n q p way).2))))]) []) : ACalls Tryz.prog 18 [.agg (booksC b), (.one (.c (.int .i64 (a)))), (.one (.c (.int .i64 (n)))), (.one (.c (.int .i64 (q)))), (.one (.c (.int .i64 (p)))), (.one (.c (.int .i64 (way))))] [] K := by
  have cT := c_LotTake b.lots a n q way (lots_n hs)
  have hf := @gain_fit b.lots a n q way p
  unfold gainR at hk
  generalize takeR b.lots a n q way = r at *
  obtain ⟨r1, r2, r3⟩ := r
  cases o1 : booksOk b with
  | false =>
    rw [if_neg (by rw [o1]; decide)] at hk
    refine acall_c Tryz.f18.results.toList mixed Tryz.func18 rfl rfl (by kernel_rfl) ?_
    intro Q hQ hQO
    simp only [go_sem]
    (try simp only [go_sem, o1]); repeat' (first | (with_reducible first | refine c_split ?_ ?_ | refine w_split ?_ ?_) <;> intro hb <;> try simp only [go_sem, hb, o1] | (first | refine call_c (cT _ ?_) | refine call_c (c_BooksOk b hs _ ?_) | fail) <;> try simp only [go_sem, o1] | with_reducible refine hQ _ _ ?_ <;> simp only [Tryz.f18, go_sem, o1])
    exact hk
  | true =>
  rw [if_pos o1] at hk
  cases o2 : decide (0 ≤ p ∧ p ≤ 1000000000000000) with
  | false =>
    rw [if_neg (of_decide_eq_false o2)] at hk
    refine acall_c Tryz.f18.results.toList mixed Tryz.func18 rfl rfl (by kernel_rfl) ?_
    intro Q hQ hQO
    simp only [go_sem]
    (try simp only [go_sem, o1, o2]); repeat' (first | (with_reducible first | refine c_split ?_ ?_ | refine w_split ?_ ?_) <;> intro hb <;> try simp only [go_sem, hb, o1, o2] | (first | refine call_c (cT _ ?_) | refine call_c (c_BooksOk b hs _ ?_) | refine call_c (c_l1Some _ _ _ ?_) | fail) <;> try simp only [go_sem, o1, o2] | with_reducible refine hQ _ _ ?_ <;> simp only [Tryz.f18, go_sem, o1, o2])
    exact hk
  | true =>
  have hp := of_decide_eq_true o2
  rw [if_pos hp] at hk
  by_cases o3 : r3 = 0
  · rw [if_pos o3] at hk
    subst o3
    have hf' : wrap64 (p - r2) = p - r2 := wrap_id _ (hf hp).1 (hf hp).2
    refine acall_c Tryz.f18.results.toList mixed Tryz.func18 rfl rfl (by kernel_rfl) ?_
    intro Q hQ hQO
    simp only [go_sem]
    (try simp only [go_sem, o1, o2]); repeat' (first | (with_reducible first | refine c_split ?_ ?_ | refine w_split ?_ ?_) <;> intro hb <;> try simp only [go_sem, hb, o1, o2] | (first | refine call_c (cT _ ?_) | refine call_c (c_BooksOk b hs _ ?_) | refine call_c (c_l1Some _ _ _ ?_) | fail) <;> try simp only [go_sem, o1, o2] | with_reducible refine hQ _ _ ?_ <;> simp only [Tryz.f18, go_sem, o1, o2])
    rw [hf']
    exact hk
  · rw [if_neg o3] at hk
    have d3 : (r3 == 0) = false := by simpa using o3
    refine acall_c Tryz.f18.results.toList mixed Tryz.func18 rfl rfl (by kernel_rfl) ?_
    intro Q hQ hQO
    simp only [go_sem]
    (try simp only [go_sem, o1, o2, d3]); repeat' (first | (with_reducible first | refine c_split ?_ ?_ | refine w_split ?_ ?_) <;> intro hb <;> try simp only [go_sem, hb, o1, o2, d3] | (first | refine call_c (cT _ ?_) | refine call_c (c_BooksOk b hs _ ?_) | refine call_c (c_l1Some _ _ _ ?_) | fail) <;> try simp only [go_sem, o1, o2, d3] | with_reducible refine hQ _ _ ?_ <;> simp only [Tryz.f18, go_sem, o1, o2, d3])
    exact hk
theorem c_impl_GainIf (b : Books) (a n q p way : Int) (hs : Small b) (K : AV → AH → Prop) (hk : K (.tup [(.one (.c (.int .i64 ((gainR b a n q p way).1)))), (.one (.c (.bool ((gainR b a n q p way).2))))]) []) : ACalls Tryz.prog 20 [.agg (booksC b), (.one (.c (.int .i64 (a)))), (.one (.c (.int .i64 (n)))), (.one (.c (.int .i64 (q)))), (.one (.c (.int .i64 (p)))), (.one (.c (.int .i64 (way))))] [] K := by
  have cT := c_impl_LotTake b.lots a n q way (lots_n hs)
  have hf := @gain_fit b.lots a n q way p
  unfold gainR at hk
  generalize takeR b.lots a n q way = r at *
  obtain ⟨r1, r2, r3⟩ := r
  cases o1 : booksOk b with
  | false =>
    rw [if_neg (by rw [o1]; decide)] at hk
    refine acall_c Tryz.f20.results.toList mixed Tryz.func20 rfl rfl (by kernel_rfl) ?_
    intro Q hQ hQO
    simp only [go_sem]
    (try simp only [go_sem, o1]); repeat' (first | (with_reducible first | refine c_split ?_ ?_ | refine w_split ?_ ?_) <;> intro hb <;> try simp only [go_sem, hb, o1] | refine call_c (c_impl_BooksOk b hs _ ?_) <;> try simp only [go_sem, o1] | with_reducible refine hQ _ _ ?_ <;> simp only [Tryz.f20, go_sem, o1])
    exact hk
  | true =>
  rw [if_pos o1] at hk
  cases o2 : decide (0 ≤ p ∧ p ≤ 1000000000000000) with
  | false =>
    rw [if_neg (of_decide_eq_false o2)] at hk
    refine acall_c Tryz.f20.results.toList mixed Tryz.func20 rfl rfl (by kernel_rfl) ?_
    intro Q hQ hQO
    simp only [go_sem]
    (try simp only [go_sem, o1, o2]); repeat' (first | (with_reducible first | refine c_split ?_ ?_ | refine w_split ?_ ?_) <;> intro hb <;> try simp only [go_sem, hb, o1, o2] | (first | refine call_c (c_impl_BooksOk b hs _ ?_) | refine call_c (c_in _ _ _ _ ?_) | fail) <;> try simp only [go_sem, o1, o2] | with_reducible refine hQ _ _ ?_ <;> simp only [Tryz.f20, go_sem, o1, o2])
    exact hk
  | true =>
  have hp := of_decide_eq_true o2
  rw [if_pos hp] at hk
  by_cases o3 : r3 = 0
  · rw [if_pos o3] at hk
    subst o3
    have hf' : wrap64 (p - r2) = p - r2 := wrap_id _ (hf hp).1 (hf hp).2
    refine acall_c Tryz.f20.results.toList mixed Tryz.func20 rfl rfl (by kernel_rfl) ?_
    intro Q hQ hQO
    simp only [go_sem]
    (try simp only [go_sem, o1, o2]); repeat' (first | (with_reducible first | refine c_split ?_ ?_ | refine w_split ?_ ?_) <;> intro hb <;> try simp only [go_sem, hb, o1, o2] | (first | refine call_c (c_impl_BooksOk b hs _ ?_) | refine call_c (c_in _ _ _ _ ?_) | refine call_c (cT _ ?_) | fail) <;> try simp only [go_sem, o1, o2] | with_reducible refine hQ _ _ ?_ <;> simp only [Tryz.f20, go_sem, o1, o2])
    rw [hf']
    exact hk
  · rw [if_neg o3] at hk
    have d3 : (r3 == 0) = false := by simpa using o3
    refine acall_c Tryz.f20.results.toList mixed Tryz.func20 rfl rfl (by kernel_rfl) ?_
    intro Q hQ hQO
    simp only [go_sem]
    (try simp only [go_sem, o1, o2, d3]); repeat' (first | (with_reducible first | refine c_split ?_ ?_ | refine w_split ?_ ?_) <;> intro hb <;> try simp only [go_sem, hb, o1, o2, d3] | (first | refine call_c (c_impl_BooksOk b hs _ ?_) | refine call_c (c_in _ _ _ _ ?_) | refine call_c (cT _ ?_) | fail) <;> try simp only [go_sem, o1, o2, d3] | with_reducible refine hQ _ _ ?_ <;> simp only [Tryz.f20, go_sem, o1, o2, d3])
    exact hk
theorem c_FnExactGainIf (b : Books) (a n q p way : Int) (h : Large b) (K : AV → AH → Prop) (hk : K (.one (.c (.bool (true)))) []) : ACalls Tryz.prog 4 [.agg (booksC b), (.one (.c (.int .i64 (a)))), (.one (.c (.int .i64 (n)))), (.one (.c (.int .i64 (q)))), (.one (.c (.int .i64 (p)))), (.one (.c (.int .i64 (way))))] [] K := by
  refine acall_c Tryz.f4.results.toList mixed Tryz.func4 rfl rfl (by kernel_rfl) ?_
  intro Q hQ hQO
  simp only [go_sem]
  (try simp only [go_sem]); repeat' (first | (with_reducible first | refine c_split ?_ ?_ | refine w_split ?_ ?_ | refine tw_split ?_ ?_) <;> intro hb <;> try simp only [go_sem, hb] | (first | with_reducible refine d4_0_LGainIf (by with_unfolding_all rfl) (by kernel_rfl) ?_ | refine call_c (c_szBooks b h _ (fun r hr => ?_)) | fail) <;> try simp only [go_sem] | fail)
  · (try simp only [go_sem]); repeat' (first | (with_reducible first | refine c_split ?_ ?_ | refine w_split ?_ ?_ | refine tw_split ?_ ?_) <;> intro hb <;> try simp only [go_sem, hb] | with_reducible refine d4_0_LGainIf (by with_unfolding_all rfl) (by kernel_rfl) ?_ <;> try simp only [go_sem] | with_reducible refine hQ _ _ ?_ <;> simp only [Tryz.f4, go_sem])
    exact hk
  have hs : Small b := hr (by have := of_decide_eq_false hb; omega)
  clear hb
  have c_own := fun K' hk' => c_impl_GainIf b a n q p way hs K' hk'
  have c_its := fun K' hk' => c_GainIf b a n q p way hs K' hk'
  generalize gainR b a n q p way = s at c_own c_its
  (try simp only [go_sem, BEq.rfl, bne_self_eq_false, decide_true]); repeat' (first | (with_reducible first | refine c_split ?_ ?_ | refine w_split ?_ ?_ | refine tw_split ?_ ?_) <;> intro hb <;> try simp only [go_sem, hb, BEq.rfl, bne_self_eq_false, decide_true] | (first | with_reducible refine d4_0_LGainIf (by with_unfolding_all rfl) (by kernel_rfl) ?_ | refine call_c (c_toBooks b hs _ ?_) | refine call_c (c_its _ ?_) | refine call_c (c_own _ ?_) | refine call_c (c_eqBooks b hs _ ?_) | fail) <;> try simp only [go_sem, BEq.rfl, bne_self_eq_false, decide_true] | with_reducible refine hQ _ _ ?_ <;> simp only [Tryz.f4, go_sem, BEq.rfl, bne_self_eq_false, decide_true])
  exact hk
end Go.Proofs.YtkndmncgohmjmaaGreat
end
section
namespace Go.BL
open Go.RowKit Go.ChangeShapes Go.WideShapes Go.ChangeAt Go.Joins Go.Deep
set_option linter.unusedVariables false
set_option linter.unusedSimpArgs false
def MW (W : World) : Im := fun a v => W.cell? a = some v ∧ a.block < W.heap.size
theorem mem_weightsAll {H : Type} {P : Program} {e : TypeId} : ∀ {ds : List (DataW H)} {i : Nat} {d : DataW H}, ds[i]? = some d → ∀ n ∈ d.weights P e, n ∈ DataW.weightsAll P e ds
  | [], i, d, h, _, _ => by simp at h
  | x :: r, 0, d, h, n, hn => by
    simp at h; subst h
    rw [DataW.weightsAll]
    exact List.mem_append_left _ hn
  | x :: r, i + 1, d, h, n, hn => by
    rw [DataW.weightsAll]
    exact List.mem_append_right _ (mem_weightsAll (by simpa using h) n hn)
section
variable {H : Type} {enc0 : TypeId × Value → H} {P : Program} {W : World} {hd : Bool}
def SaysC (W : World) (es : List CV) (cs : List Value) : Prop := cs.length = es.length ∧ ∀ (j : Nat) (c : CV), es[j]? = some c → ∃ u, cs[j]? = some u ∧ V0 (MW W) c u
def Elem {α : Type} (enc0 : TypeId × Value → H) (P : Program) (W : World) (hd : Bool) (e : TypeId) (enc : α → List CV) (good : α → Prop) : Prop :=
  ∀ (fuel : Nat) (cs : List Value) (x : DataW H × List MemPlace), cs.length = P.cellsOf e → DataW.trod enc0 P W 0 (fun _ => true) hd fuel e cs = some x → (∀ n ∈ x.1.weights P e, n ≤ reachBytes) → ∃ y : α, SaysC W (enc y) cs ∧ good y
theorem cell_ok {t e : TypeId} {a : Addr} {len cap : Nat} (ht : P.underlying t = some (.slice e)) (hok : Cell.okWide P W .any 0 t (.slice (some a) len cap)) : a.spot = none ∧ a.block < W.heap.size := by
  simp only [Cell.okWide, ht, Cell.ok] at hok
  obtain ⟨_, _, _, hs, row, cells, hsh, _⟩ := hok
  refine ⟨hs, ?_⟩
  unfold World.shape? at hsh
  split at hsh
  · rename_i q; exact (Array.getElem?_eq_some_iff.1 q).1
  · cases hsh
theorem open_row {α : Type} [Inhabited α] {enc : α → List CV} {good : α → Prop} {t e : TypeId} {k fuel : Nat} {v : Value} {x : DataW H × List MemPlace} (ht : P.underlying t = some (.slice e)) (hk : P.cellsOf e = k) (hek : ∀ y, (enc y).length = k) (hb : 1 ≤ P.bytesOf e)
    (hok : Cell.okWide P W .any 0 t v) (h : DataW.trod enc0 P W 0 (fun _ => true) hd fuel t [v] = some x) (hw : ∀ n ∈ x.1.weights P t, n ≤ reachBytes) (hE : Elem enc0 P W hd e enc good) :
    ∃ xs : List α, V0 (MW W) (.im (xs.map enc)) v ∧ xs.length ≤ 1000000000000000 ∧ ∀ y ∈ xs, good y := by
  rcases Deep.open_slice ht h with ⟨hcs, _⟩ | ⟨a, len, cap, m, n, D, Pl, hcs, _, hlc, hcm, hm, hx, hall⟩
  · simp at hcs
    subst hcs
    exact ⟨[], .im0 _ _, Nat.zero_le _, fun y hy => by simp at hy⟩
  · simp at hcs
    subst hcs
    have hm2 : m = cap := by simpa using hm
    subst hm2
    obtain ⟨hs, hbk⟩ := cell_ok ht hok
    obtain ⟨b, o, s⟩ := a
    simp only at hs hbk
    subst hs
    have hx1 : x.1 = .slice ((List.range len).map D) ((List.range (m - len)).map fun j => D (len + j)) := by rw [hx]
    have hwt : ∀ i, i < len → ∀ n ∈ (D i).weights P e, n ≤ reachBytes := by
      intro i hi n hn
      refine hw n ?_
      rw [hx1]
      simp only [DataW.weights, ht]
      refine List.mem_cons_of_mem _ (List.mem_append_left _ ?_)
      exact mem_weightsAll (i := i) (d := D i) (by simp [hi]) n hn
    have hln : len ≤ 1000000000000000 := by
      have h1 := hw ((len + (m - len)) * P.bytesOf e) (by rw [hx1]; simp [DataW.weights, ht])
      have hr : reachBytes ≤ 1000000000000000 := by decide
      have h2 : len * 1 ≤ (len + (m - len)) * P.bytesOf e := Nat.mul_le_mul (by omega) hb
      omega
    have hf : ∀ i : Nat, ∃ y : α, i < len → good y ∧ ∀ (j : Nat) (c : CV), (enc y)[j]? = some c → ∃ u, W.cell? ⟨b, o + (i * k + j), none⟩ = some u ∧ V0 (MW W) c u := by
      intro i
      by_cases hi : i < len
      · obtain ⟨cs', hcells, htr⟩ := hall i (by omega)
        rw [hk] at hcells
        obtain ⟨_, hl3, hcell⟩ := World.cells?_some hcells
        obtain ⟨y, ⟨hl, hsay⟩, hg⟩ := hE _ _ _ (hl3.trans hk.symm) htr (hwt i hi)
        refine ⟨y, fun _ => ⟨hg, fun j c hc => ?_⟩⟩
        obtain ⟨u, hu, hv⟩ := hsay j c hc
        have hj : j < k := by rw [← hl3]; exact (List.getElem?_eq_some_iff.1 hu).1
        have := hcell j hj
        rw [add_lit, add_lit, Nat.add_assoc] at this
        exact ⟨u, this.trans hu, hv⟩
      · exact ⟨default, fun q => absurd q hi⟩
    obtain ⟨g, hg⟩ := Classical.axiomOfChoice hf
    refine ⟨(List.range len).map g, ?_, by simpa using hln, fun y hy => ?_⟩
    · have hlen : (((List.range len).map g).map enc).length = len := by simp
      have hget : ∀ (i : Nat) (es : List CV), (((List.range len).map g).map enc)[i]? = some es → i < len ∧ es = enc (g i) := fun i es hi => by
        have hil : i < len := by rw [← hlen]; exact (List.getElem?_eq_some_iff.1 hi).1
        refine ⟨hil, ?_⟩
        rw [List.getElem?_map, List.getElem?_map, List.getElem?_range hil] at hi
        exact (Option.some.inj hi).symm
      have := V0.im (M := MW W) (((List.range len).map g).map enc) k b o m (fun i j => (W.cell? ⟨b, o + (i * k + j), none⟩).getD undef) (fun es hes => by
          obtain ⟨y, _, rfl⟩ := List.mem_map.1 hes
          exact hek y) (by rw [hlen]; exact hlc) (fun i es j c hi hj => by
          obtain ⟨hil, rfl⟩ := hget i es hi
          obtain ⟨u, hu, hv⟩ := (hg i hil).2 j c hj
          exact ⟨by rw [hu]; rfl, hbk⟩) (fun i es j c hi hj => by
          obtain ⟨hil, rfl⟩ := hget i es hi
          obtain ⟨u, hu, hv⟩ := (hg i hil).2 j c hj
          rw [hu]; exact hv)
      rw [hlen] at this
      exact this
    · obtain ⟨i, hi, rfl⟩ := List.mem_map.1 hy
      exact (hg i (by simpa using hi)).1
theorem struct_cell {t : TypeId} {cs : Array Value} {ts : List TypeId} {fs : Array Field} (ht : P.underlying t = some (.struct fs)) (hts : P.cellTypes P.depth t = some ts) (hok : Value.okWide P W .any 0 t (.agg cs)) (hl : cs.size = ts.length) (i : Nat) {v : Value} {u : TypeId} (hv : cs[i]? = some v) (hu : ts[i]? = some u) : Cell.okWide P W .any 0 u v := by
  simp only [Value.okWide, ht] at hok
  obtain ⟨cs', hcs, _, ts', hts', _, hc⟩ := hok
  cases hcs
  rw [hts] at hts'
  cases hts'
  obtain ⟨u', hu', hc'⟩ := hc i v hv
  have hil : i < ts.length := (List.getElem?_eq_some_iff.1 hu).1
  rw [Nat.mod_eq_of_lt hil, hu] at hu'
  cases hu'
  exact hc'
end
end Go.BL
end
section
namespace Go.Proofs.YtkndmncgohmjmaaGreat
open Go.BL Go.RowKit
set_option linter.unusedVariables false
set_option linter.unusedSimpArgs false
set_option maxRecDepth 100000
open Go.ChangeShapes Go.WideShapes Go.ChangeAt Go.Joins Go.Deep
section
variable {H : Type} {enc0 : TypeId × Value → H} {W : World} {hd : Bool}
instance : Inhabited File := ⟨⟨0, ⟨#[]⟩, ⟨#[]⟩⟩⟩
end
end Go.Proofs.YtkndmncgohmjmaaGreat
end
section
namespace Go.Proofs.YtkndmncgohmjmaaGreat
open Go.BL Go.RowKit
set_option linter.unusedVariables false
set_option linter.unusedSimpArgs false
set_option maxRecDepth 100000
open Go.ChangeShapes Go.WideShapes Go.ChangeAt Go.Joins Go.Deep
section
variable {H : Type} {enc0 : TypeId × Value → H} {W : World} {hd : Bool}
theorem elem_Account : Elem enc0 Tryz.prog W hd 199 accountC (fun _ => True) := fun fuel cs x hl h hw => by
  have hc : Tryz.prog.cellsOf 199 = 2 := by kernel_rfl
  rw [hc] at hl
  match cs, hl with
  | [u0, u1], _ =>
    obtain ⟨xs, m, _, rfl, _, hlen, hf⟩ := DataW.trod_struct Tryz.underlying199 h
    match xs, hlen with
    | [y0, y1], _ =>
      have e3 : Tryz.prog.cellsOf 3 = 1 := by kernel_rfl
      have h0 := hf 0 _ rfl
      simp [e3] at h0
      obtain ⟨a0, rfl, _⟩ := one_int Tryz.underlying3 h0
      have h1 := hf 1 _ rfl
      simp [e3] at h1
      obtain ⟨a1, rfl, _⟩ := one_int Tryz.underlying3 h1
      refine ⟨⟨a0, a1⟩, ⟨rfl, fun j z hj => ?_⟩, trivial⟩
      rcases j with _ | _ | j
      · simp [accountC] at hj; subst hj; exact ⟨_, rfl, .c _ rfl⟩
      · simp [accountC] at hj; subst hj; exact ⟨_, rfl, .c _ rfl⟩
      · simp [accountC] at hj
theorem elem_Instr : Elem enc0 Tryz.prog W hd 201 accountC (fun _ => True) := fun fuel cs x hl h hw => by
  have hc : Tryz.prog.cellsOf 201 = 2 := by kernel_rfl
  rw [hc] at hl
  match cs, hl with
  | [u0, u1], _ =>
    obtain ⟨xs, m, _, rfl, _, hlen, hf⟩ := DataW.trod_struct Tryz.underlying201 h
    match xs, hlen with
    | [y0, y1], _ =>
      have e3 : Tryz.prog.cellsOf 3 = 1 := by kernel_rfl
      have h0 := hf 0 _ rfl
      simp [e3] at h0
      obtain ⟨a0, rfl, _⟩ := one_int Tryz.underlying3 h0
      have h1 := hf 1 _ rfl
      simp [e3] at h1
      obtain ⟨a1, rfl, _⟩ := one_int Tryz.underlying3 h1
      refine ⟨⟨a0, a1⟩, ⟨rfl, fun j z hj => ?_⟩, trivial⟩
      rcases j with _ | _ | j
      · simp [accountC] at hj; subst hj; exact ⟨_, rfl, .c _ rfl⟩
      · simp [accountC] at hj; subst hj; exact ⟨_, rfl, .c _ rfl⟩
      · simp [accountC] at hj
theorem elem_Bal : Elem enc0 Tryz.prog W hd 203 balC (fun _ => True) := fun fuel cs x hl h hw => by
  have hc : Tryz.prog.cellsOf 203 = 3 := by kernel_rfl
  rw [hc] at hl
  match cs, hl with
  | [u0, u1, u2], _ =>
    obtain ⟨xs, m, _, rfl, _, hlen, hf⟩ := DataW.trod_struct Tryz.underlying203 h
    match xs, hlen with
    | [y0, y1, y2], _ =>
      have e3 : Tryz.prog.cellsOf 3 = 1 := by kernel_rfl
      have h0 := hf 0 _ rfl
      simp [e3] at h0
      obtain ⟨a0, rfl, _⟩ := one_int Tryz.underlying3 h0
      have h1 := hf 1 _ rfl
      simp [e3] at h1
      obtain ⟨a1, rfl, _⟩ := one_int Tryz.underlying3 h1
      have h2 := hf 2 _ rfl
      simp [e3] at h2
      obtain ⟨a2, rfl, _⟩ := one_int Tryz.underlying3 h2
      refine ⟨⟨a0, a1, a2⟩, ⟨rfl, fun j z hj => ?_⟩, trivial⟩
      rcases j with _ | _ | _ | j
      · simp [balC] at hj; subst hj; exact ⟨_, rfl, .c _ rfl⟩
      · simp [balC] at hj; subst hj; exact ⟨_, rfl, .c _ rfl⟩
      · simp [balC] at hj; subst hj; exact ⟨_, rfl, .c _ rfl⟩
      · simp [balC] at hj
theorem elem_Lot : Elem enc0 Tryz.prog W hd 205 lotC (fun _ => True) := fun fuel cs x hl h hw => by
  have hc : Tryz.prog.cellsOf 205 = 5 := by kernel_rfl
  rw [hc] at hl
  match cs, hl with
  | [u0, u1, u2, u3, u4], _ =>
    obtain ⟨xs, m, _, rfl, _, hlen, hf⟩ := DataW.trod_struct Tryz.underlying205 h
    match xs, hlen with
    | [y0, y1, y2, y3, y4], _ =>
      have e3 : Tryz.prog.cellsOf 3 = 1 := by kernel_rfl
      have h0 := hf 0 _ rfl
      simp [e3] at h0
      obtain ⟨a0, rfl, _⟩ := one_int Tryz.underlying3 h0
      have h1 := hf 1 _ rfl
      simp [e3] at h1
      obtain ⟨a1, rfl, _⟩ := one_int Tryz.underlying3 h1
      have h2 := hf 2 _ rfl
      simp [e3] at h2
      obtain ⟨a2, rfl, _⟩ := one_int Tryz.underlying3 h2
      have h3 := hf 3 _ rfl
      simp [e3] at h3
      obtain ⟨a3, rfl, _⟩ := one_int Tryz.underlying3 h3
      have h4 := hf 4 _ rfl
      simp [e3] at h4
      obtain ⟨a4, rfl, _⟩ := one_int Tryz.underlying3 h4
      refine ⟨⟨a0, a1, a2, a3, a4⟩, ⟨rfl, fun j z hj => ?_⟩, trivial⟩
      rcases j with _ | _ | _ | _ | _ | j
      · simp [lotC] at hj; subst hj; exact ⟨_, rfl, .c _ rfl⟩
      · simp [lotC] at hj; subst hj; exact ⟨_, rfl, .c _ rfl⟩
      · simp [lotC] at hj; subst hj; exact ⟨_, rfl, .c _ rfl⟩
      · simp [lotC] at hj; subst hj; exact ⟨_, rfl, .c _ rfl⟩
      · simp [lotC] at hj; subst hj; exact ⟨_, rfl, .c _ rfl⟩
      · simp [lotC] at hj
theorem elem_Trade : Elem enc0 Tryz.prog W hd 207 tradeC (fun _ => True) := fun fuel cs x hl h hw => by
  have hc : Tryz.prog.cellsOf 207 = 8 := by kernel_rfl
  rw [hc] at hl
  match cs, hl with
  | [u0, u1, u2, u3, u4, u5, u6, u7], _ =>
    obtain ⟨xs, m, _, rfl, _, hlen, hf⟩ := DataW.trod_struct Tryz.underlying207 h
    match xs, hlen with
    | [y0, y1, y2, y3, y4, y5, y6, y7], _ =>
      have e3 : Tryz.prog.cellsOf 3 = 1 := by kernel_rfl
      have h0 := hf 0 _ rfl
      simp [e3] at h0
      obtain ⟨a0, rfl, _⟩ := one_int Tryz.underlying3 h0
      have h1 := hf 1 _ rfl
      simp [e3] at h1
      obtain ⟨a1, rfl, _⟩ := one_int Tryz.underlying3 h1
      have h2 := hf 2 _ rfl
      simp [e3] at h2
      obtain ⟨a2, rfl, _⟩ := one_int Tryz.underlying3 h2
      have h3 := hf 3 _ rfl
      simp [e3] at h3
      obtain ⟨a3, rfl, _⟩ := one_int Tryz.underlying3 h3
      have h4 := hf 4 _ rfl
      simp [e3] at h4
      obtain ⟨a4, rfl, _⟩ := one_int Tryz.underlying3 h4
      have h5 := hf 5 _ rfl
      simp [e3] at h5
      obtain ⟨a5, rfl, _⟩ := one_int Tryz.underlying3 h5
      have h6 := hf 6 _ rfl
      simp [e3] at h6
      obtain ⟨a6, rfl, _⟩ := one_int Tryz.underlying3 h6
      have h7 := hf 7 _ rfl
      simp [e3] at h7
      obtain ⟨a7, rfl, _⟩ := one_int Tryz.underlying3 h7
      refine ⟨⟨a0, a1, a2, a3, a4, a5, a6, a7⟩, ⟨rfl, fun j z hj => ?_⟩, trivial⟩
      rcases j with _ | _ | _ | _ | _ | _ | _ | _ | j
      · simp [tradeC] at hj; subst hj; exact ⟨_, rfl, .c _ rfl⟩
      · simp [tradeC] at hj; subst hj; exact ⟨_, rfl, .c _ rfl⟩
      · simp [tradeC] at hj; subst hj; exact ⟨_, rfl, .c _ rfl⟩
      · simp [tradeC] at hj; subst hj; exact ⟨_, rfl, .c _ rfl⟩
      · simp [tradeC] at hj; subst hj; exact ⟨_, rfl, .c _ rfl⟩
      · simp [tradeC] at hj; subst hj; exact ⟨_, rfl, .c _ rfl⟩
      · simp [tradeC] at hj; subst hj; exact ⟨_, rfl, .c _ rfl⟩
      · simp [tradeC] at hj; subst hj; exact ⟨_, rfl, .c _ rfl⟩
      · simp [tradeC] at hj
theorem open_books {v : Value} {d : DataW H} {p : List MemPlace} (hok : Value.okWide Tryz.prog W .any 0 52 v) (h : DataW.Trod enc0 Tryz.prog W 0 (fun _ => true) hd 52 v d p) (hw : ∀ n ∈ d.weights Tryz.prog 52, n ≤ reachBytes) :
    ∃ b : Books, VA (fun _ => none) (MW W) (.agg (booksC b)) v ∧ Large b := by
  obtain ⟨cs, rfl, hsz⟩ := okWide_struct Tryz.underlying52 hok
  have hc6 : Tryz.prog.cellsOf 52 = 6 := by kernel_rfl
  rw [hc6] at hsz
  obtain ⟨l⟩ := cs
  match l, hsz with
  | [v0, v1, v2, v3, v4, v5], _ =>
    obtain ⟨fuel, hf⟩ := h
    obtain ⟨xs, m, _, hx, _, hlen, hfs⟩ := DataW.trod_struct Tryz.underlying52 hf
    match xs, hlen with
    | [y0, y1, y2, y3, y4, y5], _ =>
      simp only [Prod.mk.injEq] at hx
      obtain ⟨rfl, rfl⟩ := hx
      have e0 : Tryz.prog.cellsOf 46 = 1 := by kernel_rfl
      have e1 : Tryz.prog.cellsOf 47 = 1 := by kernel_rfl
      have e2 : Tryz.prog.cellsOf 48 = 1 := by kernel_rfl
      have e3 : Tryz.prog.cellsOf 49 = 1 := by kernel_rfl
      have e4 : Tryz.prog.cellsOf 50 = 1 := by kernel_rfl
      have e5 : Tryz.prog.cellsOf 3 = 1 := by kernel_rfl
      have g0 := hfs 0 _ rfl
      simp [Value.cells, e0] at g0
      have k0 := struct_cell (i := 0) Tryz.underlying52 (ts := [46, 47, 48, 49, 50, 3]) (by kernel_rfl) hok rfl rfl rfl
      obtain ⟨x0, X0, L0, _⟩ := open_row (k := 2) Tryz.underlying46 (by kernel_rfl) (fun _ => rfl) (of_decide_eq_true (by kernel_rfl)) k0 g0 (fun n hn => hw n (by
        simp only [DataW.weights, Tryz.underlying52, List.map_cons, List.map_nil, DataW.weightsEach]
        exact List.mem_append_left _ hn)) (elem_Account (enc0 := enc0))
      have g1 := hfs 1 _ rfl
      simp [Value.cells, e1] at g1
      have k1 := struct_cell (i := 1) Tryz.underlying52 (ts := [46, 47, 48, 49, 50, 3]) (by kernel_rfl) hok rfl rfl rfl
      obtain ⟨x1, X1, L1, _⟩ := open_row (k := 2) Tryz.underlying47 (by kernel_rfl) (fun _ => rfl) (of_decide_eq_true (by kernel_rfl)) k1 g1 (fun n hn => hw n (by
        simp only [DataW.weights, Tryz.underlying52, List.map_cons, List.map_nil, DataW.weightsEach]
        exact List.mem_append_right _ (List.mem_append_left _ hn))) (elem_Instr (enc0 := enc0))
      have g2 := hfs 2 _ rfl
      simp [Value.cells, e2] at g2
      have k2 := struct_cell (i := 2) Tryz.underlying52 (ts := [46, 47, 48, 49, 50, 3]) (by kernel_rfl) hok rfl rfl rfl
      obtain ⟨x2, X2, L2, _⟩ := open_row (k := 3) Tryz.underlying48 (by kernel_rfl) (fun _ => rfl) (of_decide_eq_true (by kernel_rfl)) k2 g2 (fun n hn => hw n (by
        simp only [DataW.weights, Tryz.underlying52, List.map_cons, List.map_nil, DataW.weightsEach]
        exact List.mem_append_right _ (List.mem_append_right _ (List.mem_append_left _ hn)))) (elem_Bal (enc0 := enc0))
      have g3 := hfs 3 _ rfl
      simp [Value.cells, e3] at g3
      have k3 := struct_cell (i := 3) Tryz.underlying52 (ts := [46, 47, 48, 49, 50, 3]) (by kernel_rfl) hok rfl rfl rfl
      obtain ⟨x3, X3, L3, _⟩ := open_row (k := 5) Tryz.underlying49 (by kernel_rfl) (fun _ => rfl) (of_decide_eq_true (by kernel_rfl)) k3 g3 (fun n hn => hw n (by
        simp only [DataW.weights, Tryz.underlying52, List.map_cons, List.map_nil, DataW.weightsEach]
        exact List.mem_append_right _ (List.mem_append_right _ (List.mem_append_right _ (List.mem_append_left _ hn))))) (elem_Lot (enc0 := enc0))
      have g4 := hfs 4 _ rfl
      simp [Value.cells, e4] at g4
      have k4 := struct_cell (i := 4) Tryz.underlying52 (ts := [46, 47, 48, 49, 50, 3]) (by kernel_rfl) hok rfl rfl rfl
      obtain ⟨x4, X4, L4, _⟩ := open_row (k := 8) Tryz.underlying50 (by kernel_rfl) (fun _ => rfl) (of_decide_eq_true (by kernel_rfl)) k4 g4 (fun n hn => hw n (by
        simp only [DataW.weights, Tryz.underlying52, List.map_cons, List.map_nil, DataW.weightsEach]
        exact List.mem_append_right _ (List.mem_append_right _ (List.mem_append_right _ (List.mem_append_right _ (List.mem_append_left _ hn)))))) (elem_Trade (enc0 := enc0))
      have g5 := hfs 5 _ rfl
      simp [Value.cells, e5] at g5
      obtain ⟨lot, rfl, _⟩ := one_int Tryz.underlying3 g5
      refine ⟨⟨x0, x1, x2, x3, x4, lot⟩, ⟨[v0, v1, v2, v3, v4, .int .i64 lot], rfl, rfl, fun j x hj => ?_⟩, ⟨L0, L1, L2, L3, L4⟩⟩
      rcases j with _ | _ | _ | _ | _ | _ | j
      · simp [booksC] at hj; subst hj; exact ⟨_, rfl, X0⟩
      · simp [booksC] at hj; subst hj; exact ⟨_, rfl, X1⟩
      · simp [booksC] at hj; subst hj; exact ⟨_, rfl, X2⟩
      · simp [booksC] at hj; subst hj; exact ⟨_, rfl, X3⟩
      · simp [booksC] at hj; subst hj; exact ⟨_, rfl, X4⟩
      · simp [booksC] at hj; subst hj; exact ⟨_, rfl, .c _ rfl⟩
      · simp [booksC] at hj
end
end Go.Proofs.YtkndmncgohmjmaaGreat
end
