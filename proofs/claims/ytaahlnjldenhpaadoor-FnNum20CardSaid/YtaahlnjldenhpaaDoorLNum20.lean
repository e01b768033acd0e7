/- Num20: the law over numbers and their texts answers true. Conditions: the package's table and its two errors stand as the row lists them. -/
import Derived.Test.YtaahlnjldenhpaaDoorLG
import Derived.Test.YtaahlnjldenhpaaDoorLT
import Derived.Test.YtaahlnjldenhpaaDoorLNumOf
import Derived.Test.YtaahlnjldenhpaaDoorLCur
import Derived.Test.YtaahlnjldenhpaaDoorLRows
namespace Go.Proofs.YtaahlnjldenhpaaDoor
open Go.BL Go.RowKit
set_option linter.unusedVariables false
set_option linter.unusedSimpArgs false
set_option maxRecDepth 100000
attribute [local go_sem] byteC strC
theorem nd_le : ∀ (k u : Nat), u < 10 ^ (k + 1) → Lib.nDigits u ≤ k + 1
  | 0, u, h => by rw [Lib.nDigits_small (by omega)]; exact Nat.le_refl _
  | k + 1, u, h => by
    by_cases hu : u < 10
    · rw [Lib.nDigits_small hu]; omega
    · rw [Lib.nDigits_big hu]
      have := nd_le k (u / 10) (by rw [Nat.pow_succ] at h; omega)
      omega
theorem num_text (x : Int) : numS (Lib.itoa x) = if -10000000000000000 < x ∧ x < 10000000000000000 then some x else none := by
  obtain ⟨hb, hv⟩ := body_itoa x
  have h16 : (10 : Nat) ^ (15 + 1) = 10000000000000000 := by decide
  have hlen : (bodyN (Lib.itoa x)).length = Lib.nDigits x.natAbs := by rw [hb, Lib.decDigits_length]
  have hp := Lib.nDigits_pos x.natAbs
  unfold numS
  by_cases hx : -10000000000000000 < x ∧ x < 10000000000000000
  · have := nd_le 15 x.natAbs (by omega)
    rw [if_pos hx, if_pos ⟨⟨by omega, by omega⟩, by rw [hb]; exact dec_all _, by rw [hv]⟩, hv]
  · rw [if_neg hx, if_neg]
    rintro ⟨⟨_, hl⟩, hd, _⟩
    have := val_range hl hd
    omega
theorem num_back {bs : List UInt8} {v : Int} (h : numS bs = some v) : Lib.itoa v = bs ∧ -9223372036854775808 ≤ v ∧ v ≤ 9223372036854775807 := by
  unfold numS at h
  split at h
  · rename_i hc
    injection h with h
    have := val_range hc.1.2 hc.2.1
    rw [h] at this
    exact ⟨by rw [← h]; exact hc.2.2, by omega, by omega⟩
  · cases h
theorem c_l1Pick (b : List UInt8) (i : Nat) (hh : Int) (hbl : b.length ≤ 1000000000000) (hi : i ≤ b.length) (xs : List ByteArray) (hx0 : 0 < xs.length) (hx1 : xs.length ≤ 1000000) (h0 : AH) (l k : Nat) (cap : Option Nat) (hl : h0[l]? = some (curO b i hh)) (hkk : h0[k]? = some (.own 0 9 1 cap (xs.map strC))) (K : AV → AH → Prop) (hk : ∀ (i' : Nat) hh' (v : ByteArray), i' ≤ b.length → v ∈ xs → K (.one (.c (.string (v)))) (h0.set l (curO b i' hh'))) : ACalls Tryd.prog 33 [.one (.pt l 0 0 0), .one (.sl k 0 0 xs.length)] h0 K := by
  have hlk : l ≠ k := fun e => by subst e; rw [hl] at hkk; simp [curO] at hkk
  have hkk2 : ∀ o, (h0.set l o)[k]? = some (.own 0 9 1 cap (xs.map strC)) := fun o => by rw [List.getElem?_set_ne hlk]; exact hkk
  refine acall_m Tryd.f33.results.toList mixed Tryd.func33 rfl rfl (by kernel_rfl) ?_
  intro hwf Q hQ
  simp only [go_sem, hkk]
  (try simp only [go_sem, hkk]); repeat' (first | (with_reducible refine c_split (fun hb => ?_) (fun hb => ?_) <;> try simp only [go_sem, hb, hkk]) | (with_reducible refine w_split (fun hb => ?_) (fun hb => ?_) <;> try simp only [go_sem, hb, hkk]) | (fail))
  refine call_f _ (c_l1Below b i hh _ hbl hi h0 l hl _ fun i' hh' x hi' hx => ?_)
  have hxl : x < xs.length := by rcases hx with hx | hx; omega; omega
  have hxl2 : (x : Int) < (xs.length : Int) := Int.ofNat_lt.2 hxl
  have hg : xs[x]? = some xs[x] := List.getElem?_eq_getElem hxl
  (try simp only [go_sem, hkk2, hxl2, hg, strC]); repeat' (first | (with_reducible refine c_split (fun hb => ?_) (fun hb => ?_) <;> try simp only [go_sem, hb, hkk2, hxl2, hg, strC]) | (with_reducible refine w_split (fun hb => ?_) (fun hb => ?_) <;> try simp only [go_sem, hb, hkk2, hxl2, hg, strC]) | (fail))
  refine hQ (h0.set l (curO b i' hh')) _ _ ?_; refine GC.now (ret_m (by simp only [go_sem, Tryd.f33, cur_lt]; exact _root_.id rfl) (by simp only [go_sem]) (by simp) (by first | exact hwf | exact wf_set hwf (by simp only [go_sem, cur_lt]) | exact wf_set2 hwf (by simp only [go_sem, cur_lt]) (by simp only [go_sem, cur_lt]) | (simp only [go_sem]; done)) (by first | exact ⟨_, _root_.id rfl⟩ | exact ⟨[], (List.append_nil _).symm⟩) ?_) <;> simp only [go_sem, cur_lt]
  exact hk _ _ _ hi' (List.getElem_mem hxl)
theorem f_l1Pick (b : List UInt8) (i : Nat) (hh : Int) (hbl : b.length ≤ 1000000000000) (hi : i ≤ b.length) (xs : List ByteArray) (hx0 : 0 < xs.length) (hx1 : xs.length ≤ 1000000) (h0 : AH) (l k : Nat) (cap : Option Nat) (hl : h0[l]? = some (curO b i hh)) (hkk : h0[k]? = some (.own 0 9 1 cap (xs.map strC))) (K : AV → AH → Prop) (hk : ∀ (i' : Nat) hh' (v : ByteArray), i' ≤ b.length → v ∈ xs → K (.one (.c (.string (v)))) (h0.set l (curO b i' hh'))) : FCalls Tryd.prog 33 [.one (.pt l 0 0 0), .one (.sl k 0 0 xs.length)] h0 [l, k] K := by
  have hlk : l ≠ k := fun e => by subst e; rw [hl] at hkk; simp [curO] at hkk
  have hcl : clO (.own 0 9 1 cap (xs.map strC)) = true := by
    simp only [clO, List.all_eq_true]
    intro e he
    obtain ⟨x, _, rfl⟩ := List.mem_map.1 he
    intro y hy
    rw [List.mem_singleton.1 hy]; rfl
  refine frameL (ls := [l, k]) (hs := [curO b i hh, .own 0 9 1 cap (xs.map strC)]) (args := [.one (.pt 0 0 0 0), .one (.sl 1 0 0 xs.length)]) (by simp [hlk]) rfl (fun j m hj => ?_) (by rw [List.all_cons, List.all_cons, hcl]; rfl) (c_l1Pick b i hh hbl hi xs hx0 hx1 _ 0 1 cap rfl rfl _ fun i' hh' v h1 h2 os ext e ho => ?_)
  · rcases j with _ | _ | j
    · simp at hj; subst hj; exact hl
    · simp at hj; subst hj; exact hkk
    · simp at hj
  · have e1 : rnFO (rhoL [l, k] h0.length) (AO.own 0 9 1 cap (xs.map strC)) = .own 0 9 1 cap (xs.map strC) := by
      simp only [rnFO, List.map_map]
      congr 1
    match os, ho with
    | [o1, o2], _ =>
      simp only [List.set_cons_zero, List.cons_append, List.nil_append, List.cons.injEq] at e
      obtain ⟨rfl, rfl, rfl⟩ := e
      simp only [List.map_cons, List.map_nil, e1, plug, List.append_nil]
      have hs : (h0.set l (curO b i' hh'))[k]? = some (.own 0 9 1 cap (xs.map strC)) := by rw [List.getElem?_set_ne hlk]; exact hkk
      have := set_same hs
      have e2 : rnFO (rhoL [l, k] h0.length) (curO b i' hh') = curO b i' hh' := rfl
      rw [e2, this]
      exact hk i' hh' v h1 h2
theorem c_DrawTextOf (b : List UInt8) (hbl : b.length ≤ 1000000000000) (K : AV → AH → Prop) (hk : ∀ x : Int, -9223372036854775808 ≤ x → x ≤ 9223372036854775807 → K (.one (.c (.int .i64 (x)))) []) : ACalls Tryd.prog 17 [(.one (.im (b.map byteC)))] [] K := by
  refine acall_c Tryd.f17.results.toList mixed Tryd.func17 rfl rfl (by kernel_rfl) ?_
  intro Q hQ hQO
  simp only [go_sem]
  (try simp only [go_sem]); repeat' (first | (with_reducible refine c_split (fun hb => ?_) (fun hb => ?_) <;> try simp only [go_sem, hb]) | (with_reducible refine w_split (fun hb => ?_) (fun hb => ?_) <;> try simp only [go_sem, hb]) | (refine call_c (c_l1New b hbl _ fun h1 => ?_) <;> try simp only [go_sem]) | (fail))
  refine call_f _ (c_l1Below b 0 h1 _ hbl (Nat.zero_le _) _ 0 rfl _ fun i2 h2 x2 hi2 hx2 => ?_)
  (try simp only [go_sem]); repeat' (first | (with_reducible refine c_split (fun hb => ?_) (fun hb => ?_) <;> try simp only [go_sem, hb]) | (with_reducible refine w_split (fun hb => ?_) (fun hb => ?_) <;> try simp only [go_sem, hb]) | (fail))
  refine call_f _ (c_l1Below b i2 h2 _ hbl hi2 _ 0 rfl _ fun i3 h3 x3 hi3 hx3 => ?_)
  have hw : wrap64 (0 - (x3 : Int)) = -(x3 : Int) := by rw [wrap_id _ (by omega) (by omega)]; omega
  (try simp only [go_sem, hw]); repeat' (first | (with_reducible refine c_split (fun hb => ?_) (fun hb => ?_) <;> try simp only [go_sem, hb, hw]) | (with_reducible refine w_split (fun hb => ?_) (fun hb => ?_) <;> try simp only [go_sem, hb, hw]) | (fail))
  refine call_f _ (f_l1PickInt b i3 h3 hbl hi3 [0, -1, 10, -10, 9223372036854775807, -9223372036854775808, (x2 : Int), -(x3 : Int), 1000000000000000] (Nat.le_of_ble_eq_true rfl) (Nat.le_of_ble_eq_true rfl) _ 0 1 (some 9) rfl rfl _ fun i4 h4 v hi4 hv => ?_)
  (try simp only [go_sem]); repeat' (first | (with_reducible refine c_split (fun hb => ?_) (fun hb => ?_) <;> try simp only [go_sem, hb]) | (with_reducible refine w_split (fun hb => ?_) (fun hb => ?_) <;> try simp only [go_sem, hb]) | (with_reducible refine hQ _ _ ?_ <;> simp only [Tryd.f17, go_sem]))
  simp only [List.mem_cons, List.not_mem_nil, or_false] at hv
  refine hk v ?_ ?_ <;> omega
theorem itoa_small {x : Int} (h0 : -9223372036854775808 ≤ x) (h1 : x ≤ 9223372036854775807) : (bT (Lib.itoa x)).size ≤ 21 := by rw [bT_size]; exact Lib.itoa_length_le x h0 h1
theorem c_DrawNumOf (b : List UInt8) (hbl : b.length ≤ 1000000000000) (K : AV → AH → Prop) (hk : ∀ s : ByteArray, s.size ≤ 1000 → K (.one (.c (.string (s)))) []) : ACalls Tryd.prog 18 [(.one (.im (b.map byteC)))] [] K := by
  refine acall_c Tryd.f18.results.toList mixed Tryd.func18 rfl rfl (by kernel_rfl) ?_
  intro Q hQ hQO
  simp only [go_sem]
  (try simp only [go_sem]); repeat' (first | (with_reducible refine c_split (fun hb => ?_) (fun hb => ?_) <;> try simp only [go_sem, hb]) | (with_reducible refine w_split (fun hb => ?_) (fun hb => ?_) <;> try simp only [go_sem, hb]) | (refine call_c (c_l1New b hbl _ fun h1 => ?_) <;> try simp only [go_sem]) | (fail))
  refine call_f _ (c_l1Below b 0 h1 _ hbl (Nat.zero_le _) _ 0 rfl _ fun i2 h2 x2 hi2 hx2 => ?_)
  have r1 : -9223372036854775808 ≤ (x2 : Int) ∧ (x2 : Int) ≤ 9223372036854775807 := by omega
  (try simp only [go_sem]); repeat' (first | (with_reducible refine c_split (fun hb => ?_) (fun hb => ?_) <;> try simp only [go_sem, hb]) | (with_reducible refine w_split (fun hb => ?_) (fun hb => ?_) <;> try simp only [go_sem, hb]) | (refine call_c (c_spec_TextOf (x2 : Int) r1.1 r1.2 _ ?_) <;> try simp only [go_sem]) | (fail))
  refine call_f _ (c_l1Below b i2 h2 _ hbl hi2 _ 0 rfl _ fun i3 h3 x3 hi3 hx3 => ?_)
  have hw : wrap64 (0 - (x3 : Int)) = -(x3 : Int) := by rw [wrap_id _ (by omega) (by omega)]; omega
  have r2 : -9223372036854775808 ≤ -(x3 : Int) ∧ -(x3 : Int) ≤ 9223372036854775807 := by omega
  (try simp only [go_sem, hw]); repeat' (first | (with_reducible refine c_split (fun hb => ?_) (fun hb => ?_) <;> try simp only [go_sem, hb, hw]) | (with_reducible refine w_split (fun hb => ?_) (fun hb => ?_) <;> try simp only [go_sem, hb, hw]) | (refine call_c (c_spec_TextOf (-(x3 : Int)) r2.1 r2.2 _ ?_) <;> try simp only [go_sem, hw]) | (fail))
  refine call_f _ (f_l1Pick b i3 h3 hbl hi3 [bT [48], bT [45, 48], bT [48, 48], bT [], bT [45], bT [43, 49], bT [55], bT [45, 49, 50], bT [57, 57, 57, 57, 57, 57, 57, 57, 57, 57, 57, 57, 57, 57, 57, 57], bT [45, 57, 57, 57, 57, 57, 57, 57, 57, 57, 57, 57, 57, 57, 57, 57, 57], bT [49, 48, 48, 48, 48, 48, 48, 48, 48, 48, 48, 48, 48, 48, 48, 48, 48], bT [49, 48, 48, 48, 48, 48, 48, 48, 48, 48, 48, 48, 48, 48, 48, 48], bT [49, 50, 120], bT [32, 49], bT (Lib.itoa (x2 : Int)), bT (Lib.itoa (-(x3 : Int)))] (Nat.le_of_ble_eq_true rfl) (Nat.le_of_ble_eq_true rfl) _ 0 1 (some 16) rfl rfl _ fun i4 h4 v hi4 hv => ?_)
  (try simp only [go_sem]); repeat' (first | (with_reducible refine c_split (fun hb => ?_) (fun hb => ?_) <;> try simp only [go_sem, hb]) | (with_reducible refine w_split (fun hb => ?_) (fun hb => ?_) <;> try simp only [go_sem, hb]) | (with_reducible refine hQ _ _ ?_ <;> simp only [Tryd.f18, go_sem]))
  simp only [List.mem_cons, List.not_mem_nil, or_false] at hv
  refine hk v ?_
  have s1 := itoa_small r1.1 r1.2
  have s2 := itoa_small r2.1 r2.2
  rcases hv with rfl | rfl | rfl | rfl | rfl | rfl | rfl | rfl | rfl | rfl | rfl | rfl | rfl | rfl | rfl | rfl <;> first | (rw [bT_size]; simp; done) | (rw [bT_size]; decide) | omega
theorem c_big (b : List UInt8) (K : AV → AH → Prop) (hk : K (.one (.c (.bool (decide ((1048576 : Int) < b.length))))) []) : ACalls Tryd.prog 16 [(.one (.im (b.map byteC)))] [] K := by
  refine acall_c Tryd.f16.results.toList mixed Tryd.func16 rfl rfl (by kernel_rfl) ?_
  intro Q hQ hQO
  simp only [go_sem]
  (try simp only [go_sem]); repeat' (first | (with_reducible refine c_split (fun hb => ?_) (fun hb => ?_) <;> try simp only [go_sem, hb]) | (with_reducible refine w_split (fun hb => ?_) (fun hb => ?_) <;> try simp only [go_sem, hb]) | (with_reducible refine hQ _ _ ?_ <;> simp only [Tryd.f16, go_sem]))
  exact hk
theorem num20_end {s : ByteArray} {bs : List UInt8} {v : Int} (hs : s = bT bs) (h : Lib.itoa v = bs) : decide (bT (Lib.itoa v) = s) = true := decide_eq_true (by rw [h, hs])
theorem c_FnNum20 (b : List UInt8) (_hn : b.length ≤ 1000000000000000) (K : AV → AH → Prop) (hk : K (.one (.c (.bool (true)))) []) : ACalls Tryd.prog 6 [(.one (.im (b.map byteC)))] [] K := by
  refine acall_c Tryd.f6.results.toList mixed Tryd.func6 rfl rfl (by kernel_rfl) ?_
  intro Q hQ hQO
  simp only [go_sem]
  (try simp only [go_sem]); repeat' (first | (with_reducible refine c_split (fun hb => ?_) (fun hb => ?_) <;> try simp only [go_sem, hb]) | (with_reducible refine w_split (fun hb => ?_) (fun hb => ?_) <;> try simp only [go_sem, hb]) | (refine call_c (c_big b _ ?_) <;> try simp only [go_sem]) | (fail))
  · (try simp only [go_sem]); repeat' (first | (with_reducible refine c_split (fun hb => ?_) (fun hb => ?_) <;> try simp only [go_sem, hb]) | (with_reducible refine w_split (fun hb => ?_) (fun hb => ?_) <;> try simp only [go_sem, hb]) | (with_reducible refine hQ _ _ ?_ <;> simp only [Tryd.f6, go_sem]))
    exact hk
  have hbl9 : b.length ≤ 1000000000 := by have := of_decide_eq_false hb; omega
  have hbl : b.length ≤ 1000000000000 := Nat.le_trans hbl9 (by decide)
  clear hb
  refine call_c (c_DrawTextOf b hbl _ fun x h0 h1 => ?_)
  have hlx : (Lib.itoa x).length ≤ 1000000000000 := by have := Lib.itoa_length_le x h0 h1; omega
  have hend : ∀ (s : ByteArray), s.size ≤ 1000 → ∃ bs : List UInt8, s = bT bs ∧ bs.length ≤ 1000000000000 := fun s hs => ⟨_, (bT_list s).symm, by
    have h2 : s.data.toList.length = s.size := by rw [Array.length_toList]; rfl
    omega⟩
  have hnt := num_text x
  have hstep : ∀ (bs : List UInt8), (∃ v, numS bs = some v ∧ Lib.itoa v = bs ∧ -9223372036854775808 ≤ v ∧ v ≤ 9223372036854775807) ∨ numS bs = none := fun bs => by
    cases h : numS bs with
    | none => exact .inr rfl
    | some v => exact .inl ⟨v, rfl, num_back h⟩
  by_cases hx : -10000000000000000 < x ∧ x < 10000000000000000
  · have d1 : decide (-10000000000000000 < x) = true := decide_eq_true hx.1
    have d2 : decide (x < 10000000000000000) = true := decide_eq_true hx.2
    rw [if_pos hx] at hnt
    have q : numR (numS (Lib.itoa x)) = .tup [(.one (.c (.int .i64 (x)))), (.one (.c (.bool (true))))] := by rw [hnt]; rfl
    (try simp only [go_sem, q, d1, d2, BEq.rfl]); repeat' (first | (with_reducible refine c_split (fun hb => ?_) (fun hb => ?_) <;> try simp only [go_sem, hb, q, d1, d2, BEq.rfl]) | (with_reducible refine w_split (fun hb => ?_) (fun hb => ?_) <;> try simp only [go_sem, hb, q, d1, d2, BEq.rfl]) | (refine call_c (c_impl_TextOf x h0 h1 _ ?_) <;> try simp only [go_sem, q, d1, d2, BEq.rfl]) | (refine call_c (c_impl_NumOf _ hlx _ ?_) <;> try simp only [go_sem, q, d1, d2, BEq.rfl]) | (fail))
    refine call_c (c_DrawNumOf b hbl _ fun s hs => ?_)
    obtain ⟨bs, rfl, hbs⟩ := hend s hs
    rcases hstep bs with ⟨v, e, e2, e3, e4⟩ | e
    · have q2 : numR (numS bs) = .tup [(.one (.c (.int .i64 (v)))), (.one (.c (.bool (true))))] := by rw [e]; rfl
      (try simp only [go_sem, q2, e2, BEq.rfl, decide_true]); repeat' (first | (with_reducible refine c_split (fun hb => ?_) (fun hb => ?_) <;> try simp only [go_sem, hb, q2, e2, BEq.rfl, decide_true]) | (with_reducible refine w_split (fun hb => ?_) (fun hb => ?_) <;> try simp only [go_sem, hb, q2, e2, BEq.rfl, decide_true]) | (refine call_c (c_spec_NumOf bs hbs _ ?_) <;> try simp only [go_sem, q2, e2, BEq.rfl, decide_true]) | (refine call_c (c_impl_NumOf bs hbs _ ?_) <;> try simp only [go_sem, q2, e2, BEq.rfl, decide_true]) | (refine call_c (c_impl_TextOf v e3 e4 _ ?_) <;> try simp only [go_sem, q2, e2, BEq.rfl, decide_true]) | (with_reducible refine hQ _ _ ?_ <;> simp only [Tryd.f6, go_sem, q2, e2, BEq.rfl, decide_true]))
      exact hk
    · have q2 : numR (numS bs) = .tup [(.one (.c (.int .i64 (0)))), (.one (.c (.bool (false))))] := by rw [e]; rfl
      (try simp only [go_sem, q2, BEq.rfl, decide_true]); repeat' (first | (with_reducible refine c_split (fun hb => ?_) (fun hb => ?_) <;> try simp only [go_sem, hb, q2, BEq.rfl, decide_true]) | (with_reducible refine w_split (fun hb => ?_) (fun hb => ?_) <;> try simp only [go_sem, hb, q2, BEq.rfl, decide_true]) | (refine call_c (c_spec_NumOf bs hbs _ ?_) <;> try simp only [go_sem, q2, BEq.rfl, decide_true]) | (refine call_c (c_impl_NumOf bs hbs _ ?_) <;> try simp only [go_sem, q2, BEq.rfl, decide_true]) | (with_reducible refine hQ _ _ ?_ <;> simp only [Tryd.f6, go_sem, q2, BEq.rfl, decide_true]))
      exact hk
  · have d1 : (decide (-10000000000000000 < x) && decide (x < 10000000000000000)) = false := by
      rw [← Bool.decide_and]; exact decide_eq_false hx
    rw [if_neg hx] at hnt
    have q : numR (numS (Lib.itoa x)) = .tup [(.one (.c (.int .i64 (0)))), (.one (.c (.bool (false))))] := by rw [hnt]; rfl
    cases d2 : decide (-10000000000000000 < x) with
    | false =>
      (try simp only [go_sem, q, d2, BEq.rfl]); repeat' (first | (with_reducible refine c_split (fun hb => ?_) (fun hb => ?_) <;> try simp only [go_sem, hb, q, d2, BEq.rfl]) | (with_reducible refine w_split (fun hb => ?_) (fun hb => ?_) <;> try simp only [go_sem, hb, q, d2, BEq.rfl]) | (refine call_c (c_impl_TextOf x h0 h1 _ ?_) <;> try simp only [go_sem, q, d2, BEq.rfl]) | (refine call_c (c_impl_NumOf _ hlx _ ?_) <;> try simp only [go_sem, q, d2, BEq.rfl]) | (fail))
      refine call_c (c_DrawNumOf b hbl _ fun s hs => ?_)
      obtain ⟨bs, rfl, hbs⟩ := hend s hs
      rcases hstep bs with ⟨v, e, e2, e3, e4⟩ | e
      · have q2 : numR (numS bs) = .tup [(.one (.c (.int .i64 (v)))), (.one (.c (.bool (true))))] := by rw [e]; rfl
        (try simp only [go_sem, q2, e2, BEq.rfl, decide_true]); repeat' (first | (with_reducible refine c_split (fun hb => ?_) (fun hb => ?_) <;> try simp only [go_sem, hb, q2, e2, BEq.rfl, decide_true]) | (with_reducible refine w_split (fun hb => ?_) (fun hb => ?_) <;> try simp only [go_sem, hb, q2, e2, BEq.rfl, decide_true]) | (refine call_c (c_spec_NumOf bs hbs _ ?_) <;> try simp only [go_sem, q2, e2, BEq.rfl, decide_true]) | (refine call_c (c_impl_NumOf bs hbs _ ?_) <;> try simp only [go_sem, q2, e2, BEq.rfl, decide_true]) | (refine call_c (c_impl_TextOf v e3 e4 _ ?_) <;> try simp only [go_sem, q2, e2, BEq.rfl, decide_true]) | (with_reducible refine hQ _ _ ?_ <;> simp only [Tryd.f6, go_sem, q2, e2, BEq.rfl, decide_true]))
        exact hk
      · have q2 : numR (numS bs) = .tup [(.one (.c (.int .i64 (0)))), (.one (.c (.bool (false))))] := by rw [e]; rfl
        (try simp only [go_sem, q2, BEq.rfl, decide_true]); repeat' (first | (with_reducible refine c_split (fun hb => ?_) (fun hb => ?_) <;> try simp only [go_sem, hb, q2, BEq.rfl, decide_true]) | (with_reducible refine w_split (fun hb => ?_) (fun hb => ?_) <;> try simp only [go_sem, hb, q2, BEq.rfl, decide_true]) | (refine call_c (c_spec_NumOf bs hbs _ ?_) <;> try simp only [go_sem, q2, BEq.rfl, decide_true]) | (refine call_c (c_impl_NumOf bs hbs _ ?_) <;> try simp only [go_sem, q2, BEq.rfl, decide_true]) | (with_reducible refine hQ _ _ ?_ <;> simp only [Tryd.f6, go_sem, q2, BEq.rfl, decide_true]))
        exact hk
    | true =>
      have d3 : decide (x < 10000000000000000) = false := by rw [d2, Bool.true_and] at d1; exact d1
      (try simp only [go_sem, q, d2, d3, BEq.rfl]); repeat' (first | (with_reducible refine c_split (fun hb => ?_) (fun hb => ?_) <;> try simp only [go_sem, hb, q, d2, d3, BEq.rfl]) | (with_reducible refine w_split (fun hb => ?_) (fun hb => ?_) <;> try simp only [go_sem, hb, q, d2, d3, BEq.rfl]) | (refine call_c (c_impl_TextOf x h0 h1 _ ?_) <;> try simp only [go_sem, q, d2, d3, BEq.rfl]) | (refine call_c (c_impl_NumOf _ hlx _ ?_) <;> try simp only [go_sem, q, d2, d3, BEq.rfl]) | (fail))
      refine call_c (c_DrawNumOf b hbl _ fun s hs => ?_)
      obtain ⟨bs, rfl, hbs⟩ := hend s hs
      rcases hstep bs with ⟨v, e, e2, e3, e4⟩ | e
      · have q2 : numR (numS bs) = .tup [(.one (.c (.int .i64 (v)))), (.one (.c (.bool (true))))] := by rw [e]; rfl
        (try simp only [go_sem, q2, e2, BEq.rfl, decide_true]); repeat' (first | (with_reducible refine c_split (fun hb => ?_) (fun hb => ?_) <;> try simp only [go_sem, hb, q2, e2, BEq.rfl, decide_true]) | (with_reducible refine w_split (fun hb => ?_) (fun hb => ?_) <;> try simp only [go_sem, hb, q2, e2, BEq.rfl, decide_true]) | (refine call_c (c_spec_NumOf bs hbs _ ?_) <;> try simp only [go_sem, q2, e2, BEq.rfl, decide_true]) | (refine call_c (c_impl_NumOf bs hbs _ ?_) <;> try simp only [go_sem, q2, e2, BEq.rfl, decide_true]) | (refine call_c (c_impl_TextOf v e3 e4 _ ?_) <;> try simp only [go_sem, q2, e2, BEq.rfl, decide_true]) | (with_reducible refine hQ _ _ ?_ <;> simp only [Tryd.f6, go_sem, q2, e2, BEq.rfl, decide_true]))
        exact hk
      · have q2 : numR (numS bs) = .tup [(.one (.c (.int .i64 (0)))), (.one (.c (.bool (false))))] := by rw [e]; rfl
        (try simp only [go_sem, q2, BEq.rfl, decide_true]); repeat' (first | (with_reducible refine c_split (fun hb => ?_) (fun hb => ?_) <;> try simp only [go_sem, hb, q2, BEq.rfl, decide_true]) | (with_reducible refine w_split (fun hb => ?_) (fun hb => ?_) <;> try simp only [go_sem, hb, q2, BEq.rfl, decide_true]) | (refine call_c (c_spec_NumOf bs hbs _ ?_) <;> try simp only [go_sem, q2, BEq.rfl, decide_true]) | (refine call_c (c_impl_NumOf bs hbs _ ?_) <;> try simp only [go_sem, q2, BEq.rfl, decide_true]) | (with_reducible refine hQ _ _ ?_ <;> simp only [Tryd.f6, go_sem, q2, BEq.rfl, decide_true]))
        exact hk
end Go.Proofs.YtaahlnjldenhpaaDoor
