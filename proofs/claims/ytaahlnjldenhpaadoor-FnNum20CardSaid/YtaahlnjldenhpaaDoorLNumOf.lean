/- NumOf: a number read from its text, as the program and as the specification reads it. Conditions: the package's table and its two errors stand as the row lists them. -/
import Derived.Test.YtaahlnjldenhpaaDoorLG
import Derived.Test.YtaahlnjldenhpaaDoorLT
import Derived.Test.YtaahlnjldenhpaaDoorLNumP
import Derived.Test.YtaahlnjldenhpaaDoorLNums
import Derived.WalkKit
import Derived.BigCall
import Derived.Lib.AtoiErrMem
import Derived.Lib.AppendIntMem
import Derived.Lib.SmallJoins
namespace Go.Proofs.YtaahlnjldenhpaaDoor
open Go.BL Go.RowKit
set_option linter.unusedVariables false
set_option linter.unusedSimpArgs false
set_option maxRecDepth 100000
attribute [local go_sem] byteC
def numV : Option Int → Value
  | some v => .tuple #[.int .i64 v, .bool true]
  | none => .tuple #[.int .i64 0, .bool false]
def numR : Option Int → AV
  | some v => .tup [(.one (.c (.int .i64 (v)))), (.one (.c (.bool (true))))]
  | none => .tup [(.one (.c (.int .i64 (0)))), (.one (.c (.bool (false))))]
theorem below_grow (w : World) (k : Nat) (os : Array Obj) : Below w.heap.size w (Sort.grow (w.drewN k) os) := by
  refine ⟨rfl, rfl, rfl, ?_, fun b hb => ?_⟩
  · show w.heap.size ≤ (w.heap ++ os).size
    rw [Array.size_append]; omega
  · show (w.heap ++ os)[b]? = w.heap[b]?
    exact Array.getElem?_append_left hb
theorem calls_TextOf (n : Int) (h0 : -9223372036854775808 ≤ n) (h1 : n ≤ 9223372036854775807) (w : World) (htab : Lib.TabIs Tryd.prog w "internal/strconv.uint64pow10" .u64 Lib.pow10Tab) : Calls Tryd.prog 8 #[.int .i64 n] w fun e w' => e = .returned (.string (bT (Lib.itoa n))) ∧ Below w.heap.size w w' := by
  have c := Any.strconv_Itoa Tryd.laysItoa n h0 h1
  go_enter Tryd.func8, Tryd.ntmps8
  go_wp2_with (go_at_call 19; refine (show Calls Tryd.prog 19 #[.int .i64 n] _ _ from c _ htab).mono ?_; rintro e w' ⟨rfl, k, os, rfl⟩)
  go_ret
  exact ⟨rfl, below_grow _ _ _⟩
theorem tab_below {w w' : World} (h : Lib.TabIs Tryd.prog w "internal/strconv.uint64pow10" .u64 Lib.pow10Tab) (hb : Below w.heap.size w w') : Lib.TabIs Tryd.prog w' "internal/strconv.uint64pow10" .u64 Lib.pow10Tab := Lib.tabBelow_of_tabIs h _ hb
theorem calls_Trim (s p : ByteArray) (w : World) : Calls Tryd.prog 29 #[.string s, .string p] w fun e w' => e = .returned (.string (bT (Lib.trimPrefix s.data.toList p.data.toList))) ∧ w' = w := Any.strings_TrimPrefix Tryd.laysTrim s p w
set_option maxRecDepth 100000 in
theorem calls_NumOf (s : ByteArray) (hlim : s.size ≤ 281474976710656) (w : World) (htab : Lib.TabIs Tryd.prog w "internal/strconv.uint64pow10" .u64 Lib.pow10Tab) (tp1 : TypeId) (p1 : Value) (hE : w.var? Tryd.prog "strconv.ErrSyntax" = some #[.iface tp1 p1]) (tp2 : TypeId) (p2 : Value) (hR : w.var? Tryd.prog "strconv.ErrRange" = some #[.iface tp2 p2]) :
    Calls Tryd.prog 15 #[.string s] w fun e w' => e = .returned (numV (implN s.data.toList)) ∧ Below w.heap.size w w' := by
  generalize hr : implN s.data.toList = r
  rcases h : Lib.atoiAll s.data.toList with v | _ | _
  · obtain ⟨b1, b2⟩ := Lib.atoiAll_bounds h
    have cA := fun w => (show Calls Tryd.prog 28 #[.string s] w _ from Any.strconv_Atoi_ok Tryd.laysAtoi s (by omega) v h w)
    simp only [implN, h] at hr
    go_enter Tryd.func15, Tryd.ntmps15
    go_wp2_with (go_at_call 28; refine (cA _).mono ?_; rintro e w1 ⟨rfl, hw⟩)
    have hb1 : Below w.heap.size w w1 := by
      rcases hw with rfl | ⟨t, rfl⟩
      · exact Below.refl _ _
      · exact Lib.bytesWorld_below _ _ _
    refine (calls_TextOf v b1 b2 w1 (tab_below htab hb1)).mono ?_
    rintro e w2 ⟨rfl, hb2⟩
    have hb12 : Below w.heap.size w w2 := hb1.trans (Joins.below_le hb2 hb1.size)
    by_cases he : Lib.itoa v = s.data.toList
    · have hs : bT (Lib.itoa v) = s := by rw [he, bT_list]
      rw [hs]
      by_cases hl : (Lib.trimPrefix s.data.toList [45]).length ≤ 16
      · have hz : decide ((16 : Int) < ((bT (Lib.trimPrefix s.data.toList [45])).size : Int)) = false := decide_eq_false (by rw [bT_size]; omega)
        rw [if_pos ⟨he, hl⟩] at hr
        subst hr
        clear he hs hw h cA
        go_wp2_with (go_at_call 29; refine (calls_Trim s ⟨#[45]⟩ _).mono ?_; rintro e w3 ⟨rfl, rfl⟩)
        go_ret2
        exact ⟨rfl, hb12⟩
      · have hz : decide ((16 : Int) < ((bT (Lib.trimPrefix s.data.toList [45])).size : Int)) = true := decide_eq_true (by rw [bT_size]; omega)
        rw [if_neg (fun q => hl q.2)] at hr
        subst hr
        clear he hs hw h cA
        go_wp2_with (go_at_call 29; refine (calls_Trim s ⟨#[45]⟩ _).mono ?_; rintro e w3 ⟨rfl, rfl⟩)
        go_ret2
        exact ⟨rfl, hb12⟩
    · have hs : ¬ bT (Lib.itoa v) = s := fun q => he (by rw [← q, list_bT])
      rw [if_neg (fun q => he q.1)] at hr
      subst hr
      clear hw h cA
      have hq : ((bT (Lib.itoa v)).toList == s.toList) = false := beq_false_of_ne fun q => hs (by rw [← bT_list (bT (Lib.itoa v)), ← Lib.toList_data, q, Lib.toList_data, bT_list])
      generalize bT (Lib.itoa v) = tx at *
      clear he
      go_wp2
      go_ret2
      exact ⟨rfl, hb12⟩
  · have cA := (show Calls Tryd.prog 28 #[.string s] w _ from Any.strconv_Atoi_syntax_var Tryd.laysAtoi s hlim h tp1 p1 w hE)
    simp only [implN, h] at hr
    subst hr
    go_enter Tryd.func15, Tryd.ntmps15
    go_wp2_with (go_at_call 28; refine cA.mono ?_; rintro e w1 ⟨N, rfl, -, -, hb⟩)
    go_wp2
    go_ret2
    exact ⟨rfl, hb⟩
  · have cA := (show Calls Tryd.prog 28 #[.string s] w _ from Any.strconv_Atoi_range_var Tryd.laysAtoi s hlim h tp2 p2 w hR)
    simp only [implN, h] at hr
    subst hr
    go_enter Tryd.func15, Tryd.ntmps15
    go_wp2_with (go_at_call 28; refine cA.mono ?_; rintro e w1 ⟨N, rfl, -, -, hb⟩)
    go_wp2
    go_ret2
    exact ⟨rfl, hb⟩
theorem ix_bT {P : Program} {ki : IntKind} (bs : List UInt8) (i : Int) (b : UInt8) (h0 : 0 ≤ i) (hg : bs[i.toNat]? = some b) (h : AH) (k : Ko) : ixG P true (.one (.c (.string (bT bs)))) (.one (.c (.int ki i))) h k = kr P k (.one (.c (.int .u8 b.toNat))) h := by
  rw [ix_str]
  obtain ⟨hl, he⟩ := List.getElem?_eq_some_iff.1 hg
  have hs : i.toNat < (bT bs).size := by rw [bT_size]; exact hl
  have hb : (bT bs)[i.toNat]'hs = b := by rw [← he]; rfl
  refine propext ⟨fun ⟨_, _, q⟩ => by rw [hb] at q; exact q, fun q => ⟨h0, hs, by rw [hb]; exact q⟩⟩
theorem val_arith {x : Nat} {b : UInt8} (hx : x < 10000000000000000) (hb : 48 ≤ b.toNat) : wrap64 (10 * (x : Int)) = ((10 * x : Nat) : Int) ∧ wrap64 (((10 * x : Nat) : Int) + (b.toNat : Int)) = ((10 * x + b.toNat : Nat) : Int) ∧ wrap64 (((10 * x + b.toNat : Nat) : Int) - 48) = ((digF x b : Nat) : Int) := by
  have := b.toNat_lt
  unfold digF
  refine ⟨by unfold wrap64; omega, by unfold wrap64; omega, by unfold wrap64; omega⟩
theorem fold_small {l : List UInt8} (hd : l.all isD = true) (hl : l.length < 17) : l.foldl digF 0 < 100000000000000000 := by
  have h := fold_lt l 0 hd
  have hp : (10 : Nat) ^ l.length ≤ 10 ^ 16 := Nat.pow_le_pow_right (by decide) (by omega)
  have h16 : (10 : Nat) ^ 16 = 10000000000000000 := by decide
  omega
theorem fold_part {l : List UInt8} (hd : l.all isD = true) (hl : l.length < 16) : l.foldl digF 0 < 10000000000000000 := by
  have h := fold_lt l 0 hd
  have hp : (10 : Nat) ^ l.length ≤ 10 ^ 15 := Nat.pow_le_pow_right (by decide) (by omega)
  have h16 : (10 : Nat) ^ 15 = 1000000000000000 := by decide
  omega
theorem c_spec_NumOf (bs : List UInt8) (hl : bs.length ≤ 1000000000000) (K : AV → AH → Prop) (hk : K (numR (numS bs)) []) : ACalls Tryd.prog 14 [(.one (.c (.string (bT bs))))] [] K := by
  have h45 : (((45 : UInt8).toNat : Int) == 45) = true := rfl
  by_cases hh : bs.head? = some 45
  · have hbody : bodyN bs = bs.drop 1 := by rw [bodyN, if_pos hh, List.drop_one]
    have hpos : 0 < bs.length := by cases bs with
      | nil => simp at hh
      | cons c r => simp
    have hbl : (bodyN bs).length + 1 = bs.length := by rw [hbody, List.length_drop]; omega
    have hg0 : bs[(0 : Int).toNat]? = some 45 := by show bs[0]? = _; rw [← List.head?_eq_getElem?]; exact hh
    have hix0 := fun h k => ix_bT (P := Tryd.prog) (ki := .i64) bs 0 45 (by decide) hg0 h k
    have hdp : decide ((0 : Int) < (bs.length : Int)) = true := decide_eq_true (by omega)
    refine acall_c Tryd.f14.results.toList mixed Tryd.func14 rfl rfl (by kernel_rfl) ?_
    intro Q hQ hQO
    simp only [go_sem]
    have hlen : wrap64 ((bs.length : Int) - 1) = (((bodyN bs).length : Nat) : Int) := by rw [wrap_id _ (by omega) (by omega)]; omega
    by_cases hr : 1 ≤ (bodyN bs).length ∧ (bodyN bs).length ≤ 16
    · have hd : decide ((1 : Int) ≤ (((bodyN bs).length : Nat) : Int) ∧ (((bodyN bs).length : Nat) : Int) ≤ 16) = true := decide_eq_true (by omega)
      (try simp only [go_sem, bT_size, hdp, hix0, h45, hlen, hd]); repeat' (first | (with_reducible refine c_split (fun hb => ?_) (fun hb => ?_) <;> try simp only [go_sem, hb, bT_size, hdp, hix0, h45, hlen, hd]) | (with_reducible refine w_split (fun hb => ?_) (fun hb => ?_) <;> try simp only [go_sem, hb, bT_size, hdp, hix0, h45, hlen, hd]) | (refine call_c (c_l1In _ _ _ _ ?_) <;> try simp only [go_sem, bT_size, hdp, hix0, h45, hlen, hd]) | (fail))
      refine while_at (α := Nat) (fun j => (bodyN bs).length - j) [0, 4] (fun j f h => f 5 = (.one (.c (.int .i64 ((((((bodyN bs).take j).foldl digF 0 : Nat)) : Int))))) ∧ f 6 = (.one (.c (.int .i64 (((1 + j : Nat) : Int))))) ∧ h = [] ∧ j ≤ (bodyN bs).length ∧ ((bodyN bs).take j).all isD = true) 0 (GC.now ?_) ?_
      · simp only [go_sem, nc_0, true_and]
        first | exact ⟨rfl, rfl, Nat.zero_le _⟩ | exact ⟨rfl, Nat.zero_le _⟩
      · rintro j f h J hA ⟨e5, e6, rfl, hP⟩ hJ
        simp only [go_sem] at hA
        try dsimp only at hJ
        simp only [go_sem, hA, e5, e6]
        by_cases hj : j < (bodyN bs).length
        · have hgb : bs[(((1 + j : Nat) : Int)).toNat]? = some (bodyN bs)[j] := by rw [Int.toNat_natCast, ← List.getElem?_drop, ← hbody, List.getElem?_eq_getElem hj]
          have hix := fun h k => ix_bT (P := Tryd.prog) (ki := .i64) bs ((1 + j : Nat) : Int) (bodyN bs)[j] (by omega) hgb h k
          have hdl : decide (((1 + j : Nat) : Int) < (bs.length : Int)) = true := decide_eq_true (by omega)
          have hw := wrap_nat (1 + j) (by omega)
          have hdec : (bodyN bs).length - (j + 1) < (bodyN bs).length - j := by omega
          by_cases hc : isD (bodyN bs)[j] = true
          · have hcc : 48 ≤ (bodyN bs)[j].toNat ∧ (bodyN bs)[j].toNat ≤ 57 := of_decide_eq_true hc
            have d1 : decide (((bodyN bs)[j].toNat : Int) < 48) = false := decide_eq_false (by omega)
            have d2 : decide ((57 : Int) < ((bodyN bs)[j].toNat : Int)) = false := decide_eq_false (by omega)
            have hx := fold_part hP.2 (by rw [List.length_take]; omega)
            obtain ⟨v1, v2, v3⟩ := val_arith hx hcc.1
            have hs : ((bodyN bs).take (j + 1)).foldl digF 0 = digF (((bodyN bs).take j).foldl digF 0) (bodyN bs)[j] := by rw [List.take_succ_eq_append_getElem hj, List.foldl_append]; rfl
            have hall : ((bodyN bs).take (j + 1)).all isD = true := by rw [List.take_succ_eq_append_getElem hj, List.all_append, hP.2, List.all_cons, hc]; rfl
            (try simp only [go_sem, hA, e5, e6, bT_size, hdl, hix, d1, d2, u8_wrap, v1, v2, v3]); repeat' (first | (with_reducible refine c_split (fun hb => ?_) (fun hb => ?_) <;> try simp only [go_sem, hb, hA, e5, e6, bT_size, hdl, hix, d1, d2, u8_wrap, v1, v2, v3]) | (with_reducible refine w_split (fun hb => ?_) (fun hb => ?_) <;> try simp only [go_sem, hb, hA, e5, e6, bT_size, hdl, hix, d1, d2, u8_wrap, v1, v2, v3]) | (fail))
            refine gc_trim 0 (by decide) (by simp only [go_sem]) (by simp only [go_sem, hw, hs]) (hJ (j + 1) _ _ (by exact hdec) (by simp only [go_sem, hA, e5, e6]) ⟨?_, ?_, ?_, ?_⟩) <;> try simp only [go_sem, hA, e5, e6, hw, hs]
            all_goals first | exact ⟨hj, hall⟩ | rfl
          · have hno : numS bs = none := by rw [numS, if_neg (fun q => hc ((List.all_eq_true.1 q.2.1) _ (List.getElem_mem hj)))]
            rw [hno] at hk
            (try simp only [go_sem, hA, e5, e6, bT_size, hdl, hix]); repeat' (first | (with_reducible refine c_split (fun hb => ?_) (fun hb => ?_) <;> try simp only [go_sem, hb, hA, e5, e6, bT_size, hdl, hix]) | (with_reducible refine w_split (fun hb => ?_) (fun hb => ?_) <;> try simp only [go_sem, hb, hA, e5, e6, bT_size, hdl, hix]) | (with_reducible refine hQ _ _ ?_ <;> simp only [Tryd.f14, go_sem, hA, e5, e6, bT_size, hdl, hix]))
            · exact hk
            · exact hk
            · rename_i hb1
              exact absurd (decide_eq_true (by have := of_decide_eq_false hb1; have := of_decide_eq_false hb; omega)) hc
        · have hjl : j = (bodyN bs).length := by omega
          subst hjl
          have hdl : decide (((1 + (bodyN bs).length : Nat) : Int) < (bs.length : Int)) = false := decide_eq_false (by omega)
          have hall := hP.2
          rw [List.take_length] at hall
          have hvr := val_range hr.2 hall
          have hval : wrap64 (0 - (((bodyN bs).foldl digF 0 : Nat) : Int)) = valN bs := by rw [valN, if_pos hh] at hvr ⊢; exact (congrArg wrap64 (Int.zero_sub _)).trans (wrap_id _ (by omega) (by omega))
          by_cases he : Lib.itoa (valN bs) = bs
          · have hno : numS bs = some (valN bs) := by rw [numS, if_pos ⟨hr, hall, he⟩]
            have hdd : decide (bT (Lib.itoa (valN bs)) = bT bs) = true := decide_eq_true (by rw [he])
            rw [hno] at hk
            (try simp only [go_sem, hA, e5, e6, bT_size, hdl, List.take_length, BEq.rfl, hval, hdd]); repeat' (first | (with_reducible refine c_split (fun hb => ?_) (fun hb => ?_) <;> try simp only [go_sem, hb, hA, e5, e6, bT_size, hdl, List.take_length, BEq.rfl, hval, hdd]) | (with_reducible refine w_split (fun hb => ?_) (fun hb => ?_) <;> try simp only [go_sem, hb, hA, e5, e6, bT_size, hdl, List.take_length, BEq.rfl, hval, hdd]) | (refine call_c (c_spec_TextOf (valN bs) (by omega) (by omega) _ ?_) <;> try simp only [go_sem, hA, e5, e6, bT_size, hdl, List.take_length, BEq.rfl, hval, hdd]) | (with_reducible refine hQ _ _ ?_ <;> simp only [Tryd.f14, go_sem, hA, e5, e6, bT_size, hdl, List.take_length, BEq.rfl, hval, hdd]))
            exact hk
          · have hno : numS bs = none := by rw [numS, if_neg (fun q => he q.2.2)]
            have hdd : decide (bT (Lib.itoa (valN bs)) = bT bs) = false := decide_eq_false (fun q => he (by rw [← list_bT (Lib.itoa (valN bs)), q, list_bT]))
            rw [hno] at hk
            (try simp only [go_sem, hA, e5, e6, bT_size, hdl, List.take_length, BEq.rfl, hval, hdd]); repeat' (first | (with_reducible refine c_split (fun hb => ?_) (fun hb => ?_) <;> try simp only [go_sem, hb, hA, e5, e6, bT_size, hdl, List.take_length, BEq.rfl, hval, hdd]) | (with_reducible refine w_split (fun hb => ?_) (fun hb => ?_) <;> try simp only [go_sem, hb, hA, e5, e6, bT_size, hdl, List.take_length, BEq.rfl, hval, hdd]) | (refine call_c (c_spec_TextOf (valN bs) (by omega) (by omega) _ ?_) <;> try simp only [go_sem, hA, e5, e6, bT_size, hdl, List.take_length, BEq.rfl, hval, hdd]) | (with_reducible refine hQ _ _ ?_ <;> simp only [Tryd.f14, go_sem, hA, e5, e6, bT_size, hdl, List.take_length, BEq.rfl, hval, hdd]))
            exact hk
    · have hd : decide ((1 : Int) ≤ (((bodyN bs).length : Nat) : Int) ∧ (((bodyN bs).length : Nat) : Int) ≤ 16) = false := decide_eq_false (by omega)
      have hno : numS bs = none := by rw [numS, if_neg (fun q => hr q.1)]
      rw [hno] at hk
      (try simp only [go_sem, bT_size, hdp, hix0, h45, hlen, hd]); repeat' (first | (with_reducible refine c_split (fun hb => ?_) (fun hb => ?_) <;> try simp only [go_sem, hb, bT_size, hdp, hix0, h45, hlen, hd]) | (with_reducible refine w_split (fun hb => ?_) (fun hb => ?_) <;> try simp only [go_sem, hb, bT_size, hdp, hix0, h45, hlen, hd]) | (refine call_c (c_l1In _ _ _ _ ?_) <;> try simp only [go_sem, bT_size, hdp, hix0, h45, hlen, hd]) | (with_reducible refine hQ _ _ ?_ <;> simp only [Tryd.f14, go_sem, bT_size, hdp, hix0, h45, hlen, hd]))
      exact hk
  · have hbody : bodyN bs = bs.drop 0 := by rw [bodyN, if_neg hh, List.drop_zero]
    have hbl : (bodyN bs).length = bs.length := by rw [hbody, List.length_drop]; omega
    have hz1 : ((0 : Int) == 1) = false := rfl
    refine acall_c Tryd.f14.results.toList mixed Tryd.func14 rfl rfl (by kernel_rfl) ?_
    intro Q hQ hQO
    simp only [go_sem]
    by_cases hpos : 0 < bs.length
    · have hdp : decide ((0 : Int) < (bs.length : Int)) = true := decide_eq_true (by omega)
      have hg0 : bs[(0 : Int).toNat]? = some bs[0] := List.getElem?_eq_getElem hpos
      have hix0 := fun h k => ix_bT (P := Tryd.prog) (ki := .i64) bs 0 bs[0] (by decide) hg0 h k
      have h46 : ((bs[0].toNat : Int) == 45) = false := beq_false_of_ne fun q => hh (by rw [List.head?_eq_getElem?, List.getElem?_eq_getElem hpos]; congr 1; exact UInt8.toNat_inj.1 (Int.ofNat_inj.1 q))
      have hlen : wrap64 ((bs.length : Int) - 0) = (((bodyN bs).length : Nat) : Int) := by rw [wrap_id _ (by omega) (by omega)]; omega
      by_cases hr : 1 ≤ (bodyN bs).length ∧ (bodyN bs).length ≤ 16
      · have hd : decide ((1 : Int) ≤ (((bodyN bs).length : Nat) : Int) ∧ (((bodyN bs).length : Nat) : Int) ≤ 16) = true := decide_eq_true (by omega)
        (try simp only [go_sem, bT_size, hdp, hix0, h46, hlen, hd]); repeat' (first | (with_reducible refine c_split (fun hb => ?_) (fun hb => ?_) <;> try simp only [go_sem, hb, bT_size, hdp, hix0, h46, hlen, hd]) | (with_reducible refine w_split (fun hb => ?_) (fun hb => ?_) <;> try simp only [go_sem, hb, bT_size, hdp, hix0, h46, hlen, hd]) | (refine call_c (c_l1In _ _ _ _ ?_) <;> try simp only [go_sem, bT_size, hdp, hix0, h46, hlen, hd]) | (fail))
        refine while_at (α := Nat) (fun j => (bodyN bs).length - j) [0, 4] (fun j f h => f 5 = (.one (.c (.int .i64 ((((((bodyN bs).take j).foldl digF 0 : Nat)) : Int))))) ∧ f 6 = (.one (.c (.int .i64 (((j : Nat) : Int))))) ∧ h = [] ∧ j ≤ (bodyN bs).length ∧ ((bodyN bs).take j).all isD = true) 0 (GC.now ?_) ?_
        · simp only [go_sem, nc_0, true_and]
          first | exact ⟨rfl, rfl, Nat.zero_le _⟩ | exact ⟨rfl, Nat.zero_le _⟩
        · rintro j f h J hA ⟨e5, e6, rfl, hP⟩ hJ
          simp only [go_sem] at hA
          try dsimp only at hJ
          simp only [go_sem, hA, e5, e6]
          by_cases hj : j < (bodyN bs).length
          · have hgb : bs[(((j : Nat) : Int)).toNat]? = some (bodyN bs)[j] := by rw [Int.toNat_natCast, ← List.getElem?_eq_getElem hj, hbody]; rfl
            have hix := fun h k => ix_bT (P := Tryd.prog) (ki := .i64) bs ((j : Nat) : Int) (bodyN bs)[j] (by omega) hgb h k
            have hdl : decide (((j : Nat) : Int) < (bs.length : Int)) = true := decide_eq_true (by omega)
            have hw := wrap_nat j (by omega)
            have hdec : (bodyN bs).length - (j + 1) < (bodyN bs).length - j := by omega
            by_cases hc : isD (bodyN bs)[j] = true
            · have hcc : 48 ≤ (bodyN bs)[j].toNat ∧ (bodyN bs)[j].toNat ≤ 57 := of_decide_eq_true hc
              have d1 : decide (((bodyN bs)[j].toNat : Int) < 48) = false := decide_eq_false (by omega)
              have d2 : decide ((57 : Int) < ((bodyN bs)[j].toNat : Int)) = false := decide_eq_false (by omega)
              have hx := fold_part hP.2 (by rw [List.length_take]; omega)
              obtain ⟨v1, v2, v3⟩ := val_arith hx hcc.1
              have hs : ((bodyN bs).take (j + 1)).foldl digF 0 = digF (((bodyN bs).take j).foldl digF 0) (bodyN bs)[j] := by rw [List.take_succ_eq_append_getElem hj, List.foldl_append]; rfl
              have hall : ((bodyN bs).take (j + 1)).all isD = true := by rw [List.take_succ_eq_append_getElem hj, List.all_append, hP.2, List.all_cons, hc]; rfl
              (try simp only [go_sem, hA, e5, e6, bT_size, hdl, hix, d1, d2, u8_wrap, v1, v2, v3]); repeat' (first | (with_reducible refine c_split (fun hb => ?_) (fun hb => ?_) <;> try simp only [go_sem, hb, hA, e5, e6, bT_size, hdl, hix, d1, d2, u8_wrap, v1, v2, v3]) | (with_reducible refine w_split (fun hb => ?_) (fun hb => ?_) <;> try simp only [go_sem, hb, hA, e5, e6, bT_size, hdl, hix, d1, d2, u8_wrap, v1, v2, v3]) | (fail))
              refine gc_trim 0 (by decide) (by simp only [go_sem]) (by simp only [go_sem, hw, hs]) (hJ (j + 1) _ _ (by exact hdec) (by simp only [go_sem, hA, e5, e6]) ⟨?_, ?_, ?_, ?_⟩) <;> try simp only [go_sem, hA, e5, e6, hw, hs]
              all_goals first | exact ⟨hj, hall⟩ | rfl
            · have hno : numS bs = none := by rw [numS, if_neg (fun q => hc ((List.all_eq_true.1 q.2.1) _ (List.getElem_mem hj)))]
              rw [hno] at hk
              (try simp only [go_sem, hA, e5, e6, bT_size, hdl, hix]); repeat' (first | (with_reducible refine c_split (fun hb => ?_) (fun hb => ?_) <;> try simp only [go_sem, hb, hA, e5, e6, bT_size, hdl, hix]) | (with_reducible refine w_split (fun hb => ?_) (fun hb => ?_) <;> try simp only [go_sem, hb, hA, e5, e6, bT_size, hdl, hix]) | (with_reducible refine hQ _ _ ?_ <;> simp only [Tryd.f14, go_sem, hA, e5, e6, bT_size, hdl, hix]))
              · exact hk
              · exact hk
              · rename_i hb1
                exact absurd (decide_eq_true (by have := of_decide_eq_false hb1; have := of_decide_eq_false hb; omega)) hc
          · have hjl : j = (bodyN bs).length := by omega
            subst hjl
            have hdl : decide (((bodyN bs).length : Int) < (bs.length : Int)) = false := decide_eq_false (by omega)
            have hall := hP.2
            rw [List.take_length] at hall
            have hvr := val_range hr.2 hall
            have hval : (((bodyN bs).foldl digF 0 : Nat) : Int) = valN bs := by rw [valN, if_neg hh]
            by_cases he : Lib.itoa (valN bs) = bs
            · have hno : numS bs = some (valN bs) := by rw [numS, if_pos ⟨hr, hall, he⟩]
              have hdd : decide (bT (Lib.itoa (valN bs)) = bT bs) = true := decide_eq_true (by rw [he])
              rw [hno] at hk
              (try simp only [go_sem, hA, e5, e6, bT_size, hdl, List.take_length, BEq.rfl, hval, hz1, hdd]); repeat' (first | (with_reducible refine c_split (fun hb => ?_) (fun hb => ?_) <;> try simp only [go_sem, hb, hA, e5, e6, bT_size, hdl, List.take_length, BEq.rfl, hval, hz1, hdd]) | (with_reducible refine w_split (fun hb => ?_) (fun hb => ?_) <;> try simp only [go_sem, hb, hA, e5, e6, bT_size, hdl, List.take_length, BEq.rfl, hval, hz1, hdd]) | (refine call_c (c_spec_TextOf (valN bs) (by omega) (by omega) _ ?_) <;> try simp only [go_sem, hA, e5, e6, bT_size, hdl, List.take_length, BEq.rfl, hval, hz1, hdd]) | (with_reducible refine hQ _ _ ?_ <;> simp only [Tryd.f14, go_sem, hA, e5, e6, bT_size, hdl, List.take_length, BEq.rfl, hval, hz1, hdd]))
              exact hk
            · have hno : numS bs = none := by rw [numS, if_neg (fun q => he q.2.2)]
              have hdd : decide (bT (Lib.itoa (valN bs)) = bT bs) = false := decide_eq_false (fun q => he (by rw [← list_bT (Lib.itoa (valN bs)), q, list_bT]))
              rw [hno] at hk
              (try simp only [go_sem, hA, e5, e6, bT_size, hdl, List.take_length, BEq.rfl, hval, hz1, hdd]); repeat' (first | (with_reducible refine c_split (fun hb => ?_) (fun hb => ?_) <;> try simp only [go_sem, hb, hA, e5, e6, bT_size, hdl, List.take_length, BEq.rfl, hval, hz1, hdd]) | (with_reducible refine w_split (fun hb => ?_) (fun hb => ?_) <;> try simp only [go_sem, hb, hA, e5, e6, bT_size, hdl, List.take_length, BEq.rfl, hval, hz1, hdd]) | (refine call_c (c_spec_TextOf (valN bs) (by omega) (by omega) _ ?_) <;> try simp only [go_sem, hA, e5, e6, bT_size, hdl, List.take_length, BEq.rfl, hval, hz1, hdd]) | (with_reducible refine hQ _ _ ?_ <;> simp only [Tryd.f14, go_sem, hA, e5, e6, bT_size, hdl, List.take_length, BEq.rfl, hval, hz1, hdd]))
              exact hk
      · have hd : decide ((1 : Int) ≤ (((bodyN bs).length : Nat) : Int) ∧ (((bodyN bs).length : Nat) : Int) ≤ 16) = false := decide_eq_false (by omega)
        have hno : numS bs = none := by rw [numS, if_neg (fun q => hr q.1)]
        rw [hno] at hk
        (try simp only [go_sem, bT_size, hdp, hix0, h46, hlen, hd]); repeat' (first | (with_reducible refine c_split (fun hb => ?_) (fun hb => ?_) <;> try simp only [go_sem, hb, bT_size, hdp, hix0, h46, hlen, hd]) | (with_reducible refine w_split (fun hb => ?_) (fun hb => ?_) <;> try simp only [go_sem, hb, bT_size, hdp, hix0, h46, hlen, hd]) | (refine call_c (c_l1In _ _ _ _ ?_) <;> try simp only [go_sem, bT_size, hdp, hix0, h46, hlen, hd]) | (with_reducible refine hQ _ _ ?_ <;> simp only [Tryd.f14, go_sem, bT_size, hdp, hix0, h46, hlen, hd]))
        exact hk
    · have hdp : decide ((0 : Int) < (bs.length : Int)) = false := decide_eq_false (by omega)
      have hno : numS bs = none := by rw [numS, if_neg (fun q => by have := q.1.1; omega)]
      have hl0 : (bs.length : Int) = 0 := by omega
      have hd0 : decide ((0 : Int) < 0) = false := rfl
      have hlen : wrap64 ((0 : Int) - 0) = 0 := by unfold wrap64; omega
      have hd : decide ((1 : Int) ≤ 0 ∧ (0 : Int) ≤ 16) = false := by decide
      rw [hno] at hk
      (try simp only [go_sem, bT_size, hl0, hd0, hlen, hd]); repeat' (first | (with_reducible refine c_split (fun hb => ?_) (fun hb => ?_) <;> try simp only [go_sem, hb, bT_size, hl0, hd0, hlen, hd]) | (with_reducible refine w_split (fun hb => ?_) (fun hb => ?_) <;> try simp only [go_sem, hb, bT_size, hl0, hd0, hlen, hd]) | (refine call_c (c_l1In _ _ _ _ ?_) <;> try simp only [go_sem, bT_size, hl0, hd0, hlen, hd]) | (with_reducible refine hQ _ _ ?_ <;> simp only [Tryd.f14, go_sem, bT_size, hl0, hd0, hlen, hd]))
      exact hk
theorem tab_err {φ : Phi} {M : Im} {h : AH} {w : World} {G : Cx} (R : Rep G φ M h w) : (∃ tp p, w.var? Tryd.prog "strconv.ErrSyntax" = some #[.iface tp p]) ∧ ∃ tp p, w.var? Tryd.prog "strconv.ErrRange" = some #[.iface tp p] := by
  have H : TabG ⟨w, fun _ => False, M⟩ := R.tab fun _ _ q => q
  have g0 : Tryd.prog.globalNamed "strconv.ErrSyntax" = some 0 := by kernel_rfl
  have g1 : Tryd.prog.globalNamed "strconv.ErrRange" = some 1 := by kernel_rfl
  obtain ⟨_, _, t0, p0, u0, f0, h0⟩ := H 0 rfl
  obtain ⟨_, _, t1, p1, u1, f1, h1⟩ := H 1 rfl
  refine ⟨⟨t0, p0, ?_⟩, ⟨t1, p1, ?_⟩⟩
  · unfold World.var?
    rw [g0]
    show (match w.heap[0]? with | some (.cells cs _ _) => some cs | _ => none) = _
    rw [show w.heap[0]? = _ from h0]
  · unfold World.var?
    rw [g1]
    show (match w.heap[1]? with | some (.cells cs _ _) => some cs | _ => none) = _
    rw [show w.heap[1]? = _ from h1]
theorem below_rep {φ : Phi} {M : Im} {h : AH} {w w' : World} {G : Cx} (R : Rep G φ M h w) (b : Below w.heap.size w w') : Rep G φ M h w' := R.grow b.os b.tape b.output b.size fun k hk => b.block k hk
theorem c_impl_NumOf (bs : List UInt8) (hl : bs.length ≤ 1000000000000) (K : AV → AH → Prop) (hk : K (numR (numS bs)) []) : ACalls Tryd.prog 15 [(.one (.c (.string (bT bs))))] [] K := by
  refine ⟨by kernel_rfl, fun φ M w us R hus => ?_⟩
  have e := arg1 hus
  subst e
  obtain ⟨⟨tp1, p1, hE⟩, ⟨tp2, p2, hR⟩⟩ := tab_err R
  refine (calls_NumOf (bT bs) (by rw [bT_size]; omega) w (tab_pow R) tp1 p1 hE tp2 p2 hR).mono ?_
  rintro e w' ⟨rfl, hb⟩
  refine ⟨_, _, _, φ, M, rfl, ?_, hk, below_rep R hb, Le.refl _⟩
  rw [list_bT, num_same]
  cases numS bs with
  | none =>
    refine ⟨_, rfl, rfl, fun j x hx => ?_⟩
    rcases j with _ | _ | j
    · simp at hx; subst hx; exact ⟨_, rfl, rfl⟩
    · simp at hx; subst hx; exact ⟨_, rfl, rfl⟩
    · simp at hx
  | some v =>
    refine ⟨_, rfl, rfl, fun j x hx => ?_⟩
    rcases j with _ | _ | j
    · simp at hx; subst hx; exact ⟨_, rfl, rfl⟩
    · simp at hx; subst hx; exact ⟨_, rfl, rfl⟩
    · simp at hx
theorem c_FnExactNumOf (s : ByteArray) (hl : s.size ≤ 1000000000000000) (K : AV → AH → Prop) (hk : K (.one (.c (.bool (true)))) []) : ACalls Tryd.prog 5 [(.one (.c (.string (s))))] [] K := by
  obtain ⟨bs, rfl⟩ : ∃ bs, s = bT bs := ⟨_, (bT_list s).symm⟩
  refine acall_c Tryd.f5.results.toList mixed Tryd.func5 rfl rfl (by kernel_rfl) ?_
  intro Q hQ hQO
  simp only [go_sem]
  (try simp only [go_sem, bT_size]); repeat' (first | (with_reducible refine c_split (fun hb => ?_) (fun hb => ?_) <;> try simp only [go_sem, hb, bT_size]) | (with_reducible refine w_split (fun hb => ?_) (fun hb => ?_) <;> try simp only [go_sem, hb, bT_size]) | (fail))
  · (try simp only [go_sem]); repeat' (first | (with_reducible refine c_split (fun hb => ?_) (fun hb => ?_) <;> try simp only [go_sem, hb]) | (with_reducible refine w_split (fun hb => ?_) (fun hb => ?_) <;> try simp only [go_sem, hb]) | (with_reducible refine hQ _ _ ?_ <;> simp only [Tryd.f5, go_sem]))
    exact hk
  · have hn : bs.length ≤ 1000000000000 := by
      have := of_decide_eq_false hb
      omega
    cases hr : numS bs with
    | none =>
      have q : numR (numS bs) = .tup [(.one (.c (.int .i64 (0)))), (.one (.c (.bool (false))))] := by rw [hr]; rfl
      (try simp only [go_sem, q, BEq.rfl, bne_self_eq_false]); repeat' (first | (with_reducible refine c_split (fun hb => ?_) (fun hb => ?_) <;> try simp only [go_sem, hb, q, BEq.rfl, bne_self_eq_false]) | (with_reducible refine w_split (fun hb => ?_) (fun hb => ?_) <;> try simp only [go_sem, hb, q, BEq.rfl, bne_self_eq_false]) | (refine call_c (c_spec_NumOf bs hn _ ?_) <;> try simp only [go_sem, q, BEq.rfl, bne_self_eq_false]) | (refine call_c (c_impl_NumOf bs hn _ ?_) <;> try simp only [go_sem, q, BEq.rfl, bne_self_eq_false]) | (with_reducible refine hQ _ _ ?_ <;> simp only [Tryd.f5, go_sem, q, BEq.rfl, bne_self_eq_false]))
      exact hk
    | some v =>
      have q : numR (numS bs) = .tup [(.one (.c (.int .i64 (v)))), (.one (.c (.bool (true))))] := by rw [hr]; rfl
      (try simp only [go_sem, q, BEq.rfl, bne_self_eq_false]); repeat' (first | (with_reducible refine c_split (fun hb => ?_) (fun hb => ?_) <;> try simp only [go_sem, hb, q, BEq.rfl, bne_self_eq_false]) | (with_reducible refine w_split (fun hb => ?_) (fun hb => ?_) <;> try simp only [go_sem, hb, q, BEq.rfl, bne_self_eq_false]) | (refine call_c (c_spec_NumOf bs hn _ ?_) <;> try simp only [go_sem, q, BEq.rfl, bne_self_eq_false]) | (refine call_c (c_impl_NumOf bs hn _ ?_) <;> try simp only [go_sem, q, BEq.rfl, bne_self_eq_false]) | (with_reducible refine hQ _ _ ?_ <;> simp only [Tryd.f5, go_sem, q, BEq.rfl, bne_self_eq_false]))
      exact hk
end Go.Proofs.YtaahlnjldenhpaaDoor
