/- Insert: one element is put into an owned row. Conditions: none. -/
import Derived.Test.YtaahlnjldenhpaaLG
import Derived.Test.YtaahlnjldenhpaaLT
import Derived.Test.YtaahlnjldenhpaaLFind
namespace Go.Proofs.Ytaahlnjldenhpaa
open Go.BL Go.RowKit
set_option linter.unusedVariables false
set_option linter.unusedSimpArgs false
set_option maxRecDepth 100000
attribute [local go_sem] fileC fileC_len
def insAt {α : Type} (xs : List α) (i : Nat) (x : α) : List α := xs.take i ++ x :: xs.drop i
theorem insAt_len {α : Type} (xs : List α) (i : Nat) (x : α) (hi : i ≤ xs.length) : (insAt xs i x).length = xs.length + 1 := by simp [insAt]; omega
theorem insAt_end {α : Type} (xs : List α) (x : α) : insAt xs xs.length x = xs ++ [x] := by simp [insAt]
theorem ins_w {i n : Nat} (hi : i < n) (hn : n ≤ 1000000000) : wrap64 ((n : Int) + 1) = ((n + 1 : Nat) : Int) ∧ wrap64 (((n + 1 : Nat) : Int) - (i : Int)) = ((n + 1 - i : Nat) : Int) ∧ wrap64 ((i : Int) + 1) = ((i + 1 : Nat) : Int) ∧ ((i : Int) == (n : Int)) = false ∧ (0 : Int) ≤ ((n + 1 - i : Nat) : Int) ∧ ((n + 1 - i : Nat) : Int) ≤ 9223372036854775807 ∧ i + (n + 1 - i) = n + 1 := by
  refine ⟨by unfold wrap64; omega, by unfold wrap64; omega, by unfold wrap64; omega, ?_, by omega, by omega, by omega⟩
  simp; omega
theorem ins_new {α : Type} (es : List α) (z x : α) (i n : Nat) (hn : es.length = n) (hi : i < n) :
    cset (cset (es.take i ++ List.replicate (n + 1 - i) z) i [x]) (i + 1) ((es.drop i).take (n - i)) = es.take i ++ x :: es.drop i := by
  have hd : (es.drop i).take (n - i) = es.drop i := List.take_of_length_le (by simp; omega)
  have hl : (es.take i ++ List.replicate (n + 1 - i) z).length = n + 1 := by simp; omega
  rw [hd, cset_end _ _ _ (by rw [cset_length, hl]; simp; omega)]
  have h2 : (cset (es.take i ++ List.replicate (n + 1 - i) z) i [x]).take (i + 1) = es.take i ++ [x] := by
    apply List.ext_getElem?
    intro j
    rw [List.getElem?_take]
    by_cases hj : j < i + 1
    · rw [if_pos hj, cset_get _ _ _ _ (by rw [hl]; simp; omega)]
      by_cases hji : j = i
      · subst hji
        rw [if_pos (by simp), List.getElem?_append_right (by simp; omega)]
        congr 1; simp; omega
      · rw [if_neg (by simp; omega), List.getElem?_append_left (by simp; omega), List.getElem?_append_left (by simp; omega)]
    · rw [if_neg hj, List.getElem?_eq_none (by simp; omega)]
  rw [h2]; simp
theorem ins_old {α : Type} (E es : List α) (x : α) (i n : Nat) (hE : n + 1 ≤ E.length) (htk : E.take n = es) (hn : es.length = n) (hi : i < n) :
    ((cset E (i + 1) ((E.drop i).take (n - i))).set i x).take (n + 1) = es.take i ++ x :: es.drop i := by
  have hget : ∀ j, j < n → es[j]? = E[j]? := fun j hj => by rw [← htk, List.getElem?_take, if_pos hj]
  have hyl : ((E.drop i).take (n - i)).length = n - i := by simp; omega
  apply List.ext_getElem?
  intro j
  rw [List.getElem?_take]
  by_cases hj : j < n + 1
  · rw [if_pos hj]
    by_cases hji : j = i
    · subst hji
      rw [List.getElem?_set_self (by rw [cset_length]; omega), List.getElem?_append_right (by simp; omega)]
      rw [show j - (es.take j).length = 0 by simp; omega]
      rfl
    · rw [List.getElem?_set_ne (Ne.symm hji), cset_get _ _ _ _ (by rw [hyl]; omega), hyl]
      by_cases hlt : j < i
      · rw [if_neg (by omega), List.getElem?_append_left (by simp; omega), List.getElem?_take, if_pos hlt, hget j (by omega)]
      · obtain ⟨q, rfl⟩ : ∃ q, j = i + 1 + q := ⟨j - (i + 1), by omega⟩
        rw [if_pos (by omega), List.getElem?_take, if_pos (by omega), List.getElem?_drop, List.getElem?_append_right (by simp; omega)]
        rw [show i + 1 + q - (es.take i).length = q + 1 by simp; omega, List.getElem?_cons_succ, List.getElem?_drop, show i + 1 + q - (i + 1) = q by omega, hget _ (by omega)]
  · rw [if_neg hj, List.getElem?_eq_none (by simp; omega)]
theorem c_Insert (xs : List File) (x : File) (i l g lv gv : Nat) (cap cv : Option Nat) (h0 : AH) (hl : h0[l]? = some (.own g 55 3 cap (xs.map fileC))) (hv : h0[lv]? = some (.own gv 55 3 cv [fileC x])) (hne : l ≠ lv) (hi : i ≤ xs.length) (hn : xs.length ≤ 1000000000)
    (K : AV → AH → Prop) (hk : ∀ g', K (.one (.sl l g' 0 (xs.length + 1))) (h0.set l (.own g' 55 3 none ((insAt xs i x).map fileC)))) : ACalls Try.prog 86 [.one (.sl l g 0 xs.length), (.one (.c (.int .i64 (i)))), .one (.sl lv gv 0 1)] h0 K := by
  have hlt := (List.getElem?_eq_some_iff.1 hl).1
  have hall : ∀ o, (h0.set l o)[l]? = some o := set_at hl
  have hvv : ∀ o, (h0.set l o)[lv]? = some (.own gv 55 3 cv [fileC x]) := fun o => by rw [List.getElem?_set_ne hne]; exact hv
  have h10 : ((1 : Int) == 0) = false := rfl
  have h1c : ((1 : Nat) : Int) = 1 := rfl
  rcases Nat.eq_or_lt_of_le hi with rfl | hi
  · refine acall_m Try.f86.results.toList mixed Try.func86 rfl rfl (by kernel_rfl) ?_
    intro hwf Q hQ
    simp only [go_sem, hl, hv]
    (try simp only [go_sem, hl, hv, BEq.rfl, sx_some, Nat.sub_self, Nat.lt_irrefl, h10, h1c]); repeat' (first | (with_reducible refine c_split (fun hb => ?_) (fun hb => ?_) <;> try simp only [go_sem, hb, hl, hv, BEq.rfl, sx_some, Nat.sub_self, Nat.lt_irrefl, h10, h1c]) | (with_reducible refine w_split (fun hb => ?_) (fun hb => ?_) <;> try simp only [go_sem, hb, hl, hv, BEq.rfl, sx_some, Nat.sub_self, Nat.lt_irrefl, h10, h1c]) | (with_reducible refine tw_split (fun hb => ?_) (fun hb => ?_) <;> try simp only [go_sem, hb, hl, hv, BEq.rfl, sx_some, Nat.sub_self, Nat.lt_irrefl, h10, h1c]) | (with_reducible refine draw_at 0 46 (by with_unfolding_all rfl) [(0, true, true), (1, true, true), (2, true, true), (3, true, true), (4, true, true), (5, true, true), (6, false, true), (7, false, true), (8, false, true)] (by kernel_rfl) ?_ <;> try simp only [go_sem, hl, hv, BEq.rfl, sx_some, Nat.sub_self, Nat.lt_irrefl, h10, h1c]) | (with_reducible refine draw_at 0 69 (by with_unfolding_all rfl) [(0, true, true), (1, true, true), (2, true, true), (3, true, true), (4, true, true), (5, true, true), (6, false, true), (7, false, true), (8, false, true)] (by kernel_rfl) ?_ <;> try simp only [go_sem, hl, hv, BEq.rfl, sx_some, Nat.sub_self, Nat.lt_irrefl, h10, h1c]) | (fail))
    split
    · (try simp only [go_sem, hl, hv, BEq.rfl, sx_some, Nat.sub_self, Nat.lt_irrefl, h10, h1c]); repeat' (first | (with_reducible refine c_split (fun hb => ?_) (fun hb => ?_) <;> try simp only [go_sem, hb, hl, hv, BEq.rfl, sx_some, Nat.sub_self, Nat.lt_irrefl, h10, h1c]) | (with_reducible refine w_split (fun hb => ?_) (fun hb => ?_) <;> try simp only [go_sem, hb, hl, hv, BEq.rfl, sx_some, Nat.sub_self, Nat.lt_irrefl, h10, h1c]) | (with_reducible refine tw_split (fun hb => ?_) (fun hb => ?_) <;> try simp only [go_sem, hb, hl, hv, BEq.rfl, sx_some, Nat.sub_self, Nat.lt_irrefl, h10, h1c]) | (with_reducible refine draw_at 0 46 (by with_unfolding_all rfl) [(0, true, true), (1, true, true), (2, true, true), (3, true, true), (4, true, true), (5, true, true), (6, false, true), (7, false, true), (8, false, true)] (by kernel_rfl) ?_ <;> try simp only [go_sem, hl, hv, BEq.rfl, sx_some, Nat.sub_self, Nat.lt_irrefl, h10, h1c]) | (with_reducible refine draw_at 0 69 (by with_unfolding_all rfl) [(0, true, true), (1, true, true), (2, true, true), (3, true, true), (4, true, true), (5, true, true), (6, false, true), (7, false, true), (8, false, true)] (by kernel_rfl) ?_ <;> try simp only [go_sem, hl, hv, BEq.rfl, sx_some, Nat.sub_self, Nat.lt_irrefl, h10, h1c]) | (fail))
      refine ap_end hl (by simp) (by simp; omega) ?_
      (try simp only [go_sem, List.length_map]); repeat' (first | (with_reducible refine c_split (fun hb => ?_) (fun hb => ?_) <;> try simp only [go_sem, hb, List.length_map]) | (with_reducible refine w_split (fun hb => ?_) (fun hb => ?_) <;> try simp only [go_sem, hb, List.length_map]) | (with_reducible refine tw_split (fun hb => ?_) (fun hb => ?_) <;> try simp only [go_sem, hb, List.length_map]) | (with_reducible refine draw_at 0 46 (by with_unfolding_all rfl) [(0, true, true), (1, true, true), (2, true, true), (3, true, true), (4, true, true), (5, true, true), (6, false, true), (7, false, true), (8, false, true)] (by kernel_rfl) ?_ <;> try simp only [go_sem, List.length_map]) | (with_reducible refine draw_at 0 69 (by with_unfolding_all rfl) [(0, true, true), (1, true, true), (2, true, true), (3, true, true), (4, true, true), (5, true, true), (6, false, true), (7, false, true), (8, false, true)] (by kernel_rfl) ?_ <;> try simp only [go_sem, List.length_map]) | (fail))
      refine hQ (h0.set l (.own (g + 1) 55 3 none ((xs ++ [(⟨x.name, x.safe, x.late⟩ : File)]).map fileC))) _ _ ?_; refine GC.now (ret_m (by simp only [go_sem, Try.f86, hlt]; exact _root_.id rfl) (by simp only [go_sem]) (by simp) (by first | exact hwf | exact wf_set hwf (by simp only [go_sem, hlt]) | exact wf_set2 hwf (by simp only [go_sem, hlt]) (by simp only [go_sem, hlt]) | (simp only [go_sem]; done)) (by first | exact ⟨_, _root_.id rfl⟩ | exact ⟨[], (List.append_nil _).symm⟩) ?_) <;> simp only [go_sem, hlt]
      have := hk (g + 1)
      rw [insAt_end] at this
      exact this
    · (try simp only [go_sem, hl, hv, BEq.rfl, sx_some, Nat.sub_self, Nat.lt_irrefl, h10, h1c]); repeat' (first | (with_reducible refine c_split (fun hb => ?_) (fun hb => ?_) <;> try simp only [go_sem, hb, hl, hv, BEq.rfl, sx_some, Nat.sub_self, Nat.lt_irrefl, h10, h1c]) | (with_reducible refine w_split (fun hb => ?_) (fun hb => ?_) <;> try simp only [go_sem, hb, hl, hv, BEq.rfl, sx_some, Nat.sub_self, Nat.lt_irrefl, h10, h1c]) | (with_reducible refine tw_split (fun hb => ?_) (fun hb => ?_) <;> try simp only [go_sem, hb, hl, hv, BEq.rfl, sx_some, Nat.sub_self, Nat.lt_irrefl, h10, h1c]) | (with_reducible refine draw_at 0 46 (by with_unfolding_all rfl) [(0, true, true), (1, true, true), (2, true, true), (3, true, true), (4, true, true), (5, true, true), (6, false, true), (7, false, true), (8, false, true)] (by kernel_rfl) ?_ <;> try simp only [go_sem, hl, hv, BEq.rfl, sx_some, Nat.sub_self, Nat.lt_irrefl, h10, h1c]) | (with_reducible refine draw_at 0 69 (by with_unfolding_all rfl) [(0, true, true), (1, true, true), (2, true, true), (3, true, true), (4, true, true), (5, true, true), (6, false, true), (7, false, true), (8, false, true)] (by kernel_rfl) ?_ <;> try simp only [go_sem, hl, hv, BEq.rfl, sx_some, Nat.sub_self, Nat.lt_irrefl, h10, h1c]) | (fail))
      refine ap_end hl (by simp) (by simp; omega) ?_
      (try simp only [go_sem, List.length_map]); repeat' (first | (with_reducible refine c_split (fun hb => ?_) (fun hb => ?_) <;> try simp only [go_sem, hb, List.length_map]) | (with_reducible refine w_split (fun hb => ?_) (fun hb => ?_) <;> try simp only [go_sem, hb, List.length_map]) | (with_reducible refine tw_split (fun hb => ?_) (fun hb => ?_) <;> try simp only [go_sem, hb, List.length_map]) | (with_reducible refine draw_at 0 46 (by with_unfolding_all rfl) [(0, true, true), (1, true, true), (2, true, true), (3, true, true), (4, true, true), (5, true, true), (6, false, true), (7, false, true), (8, false, true)] (by kernel_rfl) ?_ <;> try simp only [go_sem, List.length_map]) | (with_reducible refine draw_at 0 69 (by with_unfolding_all rfl) [(0, true, true), (1, true, true), (2, true, true), (3, true, true), (4, true, true), (5, true, true), (6, false, true), (7, false, true), (8, false, true)] (by kernel_rfl) ?_ <;> try simp only [go_sem, List.length_map]) | (fail))
      refine hQ (h0.set l (.own (g + 1) 55 3 none ((xs ++ [(⟨x.name, x.safe, x.late⟩ : File)]).map fileC))) _ _ ?_; refine GC.now (ret_m (by simp only [go_sem, Try.f86, hlt]; exact _root_.id rfl) (by simp only [go_sem]) (by simp) (by first | exact hwf | exact wf_set hwf (by simp only [go_sem, hlt]) | exact wf_set2 hwf (by simp only [go_sem, hlt]) (by simp only [go_sem, hlt]) | (simp only [go_sem]; done)) (by first | exact ⟨_, _root_.id rfl⟩ | exact ⟨[], (List.append_nil _).symm⟩) ?_) <;> simp only [go_sem, hlt]
      have := hk (g + 1)
      rw [insAt_end] at this
      exact this
  · obtain ⟨w1, w2, w3, w4, w5, w6, w7⟩ := ins_w hi hn
    have hile := Nat.le_of_lt hi
    refine acall_m Try.f86.results.toList mixed Try.func86 rfl rfl (by kernel_rfl) ?_
    intro hwf Q hQ
    simp only [go_sem, hl, hv]
    (try simp only [go_sem, hl, hv, BEq.rfl, hi, hile, w1, w2, w3, w4, h10, h1c]); repeat' (first | (with_reducible refine c_split (fun hb => ?_) (fun hb => ?_) <;> try simp only [go_sem, hb, hl, hv, BEq.rfl, hi, hile, w1, w2, w3, w4, h10, h1c]) | (with_reducible refine w_split (fun hb => ?_) (fun hb => ?_) <;> try simp only [go_sem, hb, hl, hv, BEq.rfl, hi, hile, w1, w2, w3, w4, h10, h1c]) | (with_reducible refine tw_split (fun hb => ?_) (fun hb => ?_) <;> try simp only [go_sem, hb, hl, hv, BEq.rfl, hi, hile, w1, w2, w3, w4, h10, h1c]) | (with_reducible refine draw_at 0 46 (by with_unfolding_all rfl) [(0, true, true), (1, true, true), (2, true, true), (3, true, true), (4, true, true), (5, true, true), (6, false, true), (7, false, true), (8, false, true)] (by kernel_rfl) ?_ <;> try simp only [go_sem, hl, hv, BEq.rfl, hi, hile, w1, w2, w3, w4, h10, h1c]) | (with_reducible refine draw_at 0 69 (by with_unfolding_all rfl) [(0, true, true), (1, true, true), (2, true, true), (3, true, true), (4, true, true), (5, true, true), (6, false, true), (7, false, true), (8, false, true)] (by kernel_rfl) ?_ <;> try simp only [go_sem, hl, hv, BEq.rfl, hi, hile, w1, w2, w3, w4, h10, h1c]) | (fail))
    refine cg_sp hl (fun c hc1 hc2 => ?_)
    by_cases hcn : c < xs.length + 1
    · have hb : decide (((c - 0 : Nat) : Int) < ((xs.length + 1 : Nat) : Int)) = true := decide_eq_true (by omega)
      left
      (try simp only [go_sem, hall, hvv, BEq.rfl, hi, hile, w1, w2, w3, w4, w5, w6, h10, h1c, hb]); repeat' (first | (with_reducible refine c_split (fun hb => ?_) (fun hb => ?_) <;> try simp only [go_sem, hb, hall, hvv, BEq.rfl, hi, hile, w1, w2, w3, w4, w5, w6, h10, h1c, hb]) | (with_reducible refine w_split (fun hb => ?_) (fun hb => ?_) <;> try simp only [go_sem, hb, hall, hvv, BEq.rfl, hi, hile, w1, w2, w3, w4, w5, w6, h10, h1c, hb]) | (with_reducible refine tw_split (fun hb => ?_) (fun hb => ?_) <;> try simp only [go_sem, hb, hall, hvv, BEq.rfl, hi, hile, w1, w2, w3, w4, w5, w6, h10, h1c, hb]) | (with_reducible refine draw_at 0 46 (by with_unfolding_all rfl) [(0, true, true), (1, true, true), (2, true, true), (3, true, true), (4, true, true), (5, true, true), (6, false, true), (7, false, true), (8, false, true)] (by kernel_rfl) ?_ <;> try simp only [go_sem, hall, hvv, BEq.rfl, hi, hile, w1, w2, w3, w4, w5, w6, h10, h1c, hb]) | (with_reducible refine draw_at 0 69 (by with_unfolding_all rfl) [(0, true, true), (1, true, true), (2, true, true), (3, true, true), (4, true, true), (5, true, true), (6, false, true), (7, false, true), (8, false, true)] (by kernel_rfl) ?_ <;> try simp only [go_sem, hall, hvv, BEq.rfl, hi, hile, w1, w2, w3, w4, w5, w6, h10, h1c, hb]) | (fail))
      have hnew : ∀ (o : AO) (a : AO), (h0.set l o ++ [a])[h0.length]? = some a := fun o a => by rw [List.getElem?_append_right (by simp)]; simp
      have hset : ∀ (o : AO) (a b : AO), (h0.set l o ++ [a]).set h0.length b = h0.set l o ++ [b] := fun o a b => by rw [List.set_append_right _ _ (by simp)]; simp
      have hold : ∀ (o : AO) (a : List AO), (h0.set l o ++ a)[l]? = some o := fun o a => h_old a (hall o)
      have hvo : ∀ (o : AO) (a : List AO), (h0.set l o ++ a)[lv]? = some (.own gv 55 3 cv [fileC x]) := fun o a => h_old a (hvv o)
      have w8 : (xs.length + 1 - i) * 40 ≤ 281474976710656 := by omega
      simp only [Option.isSome_none, srB_i, w5, w6, w8, Int.toNat_natCast, and_self, if_true]
      refine ap_new (hall _) (by simpa using hile) (by have := of_decide_eq_true hb; simp; omega) (by simp; omega) ?_
      generalize hE : List.take i (xs.map fileC) ++ List.replicate (xs.length + 1 - i) [.c (.int .i64 (0)), .c (.string (⟨#[]⟩)), .c (.string (⟨#[]⟩))] = E
      have hEl : E.length = xs.length + 1 := by rw [← hE]; simp; omega
      have hi1 : i < xs.length + 1 := by omega
      have hi2 : i ≤ xs.length + 1 := by omega
      have hi3 : i + 1 < xs.length + 1 := by omega
      have hi4 : i + 1 ≤ xs.length + 1 := by omega
      (try simp only [go_sem, hnew, hset, hold, hvo, hi, hile, w3, List.length_map, List.length_replicate, w7, hEl, hi1, hi2, hi3, hi4]); repeat' (first | (with_reducible refine c_split (fun hb => ?_) (fun hb => ?_) <;> try simp only [go_sem, hb, hnew, hset, hold, hvo, hi, hile, w3, List.length_map, List.length_replicate, w7, hEl, hi1, hi2, hi3, hi4]) | (with_reducible refine w_split (fun hb => ?_) (fun hb => ?_) <;> try simp only [go_sem, hb, hnew, hset, hold, hvo, hi, hile, w3, List.length_map, List.length_replicate, w7, hEl, hi1, hi2, hi3, hi4]) | (with_reducible refine tw_split (fun hb => ?_) (fun hb => ?_) <;> try simp only [go_sem, hb, hnew, hset, hold, hvo, hi, hile, w3, List.length_map, List.length_replicate, w7, hEl, hi1, hi2, hi3, hi4]) | (with_reducible refine draw_at 0 46 (by with_unfolding_all rfl) [(0, true, true), (1, true, true), (2, true, true), (3, true, true), (4, true, true), (5, true, true), (6, false, true), (7, false, true), (8, false, true)] (by kernel_rfl) ?_ <;> try simp only [go_sem, hnew, hset, hold, hvo, hi, hile, w3, List.length_map, List.length_replicate, w7, hEl, hi1, hi2, hi3, hi4]) | (with_reducible refine draw_at 0 69 (by with_unfolding_all rfl) [(0, true, true), (1, true, true), (2, true, true), (3, true, true), (4, true, true), (5, true, true), (6, false, true), (7, false, true), (8, false, true)] (by kernel_rfl) ?_ <;> try simp only [go_sem, hnew, hset, hold, hvo, hi, hile, w3, List.length_map, List.length_replicate, w7, hEl, hi1, hi2, hi3, hi4]) | (fail))
      refine cp_sl (news := [fileC x]) (by simp only [row_sl, objR_at, hvo, obR_own, rw_some]; rfl) (hnew _ _) (by omega) ?_
      have hmin : min 1 (xs.length + 1 - i) = 1 := by omega
      have hcl : ∀ y, (E.set i y).length = xs.length + 1 := fun y => by rw [List.length_set]; exact hEl
      have hdl : i + (xs.length - i) = xs.length := by omega
      (try simp only [go_sem, hnew, hset, hold, hvo, hi, hile, w3, List.length_map, List.length_replicate, w7, hEl, hi1, hi2, hi3, hi4, hmin, hcl]); repeat' (first | (with_reducible refine c_split (fun hb => ?_) (fun hb => ?_) <;> try simp only [go_sem, hb, hnew, hset, hold, hvo, hi, hile, w3, List.length_map, List.length_replicate, w7, hEl, hi1, hi2, hi3, hi4, hmin, hcl]) | (with_reducible refine w_split (fun hb => ?_) (fun hb => ?_) <;> try simp only [go_sem, hb, hnew, hset, hold, hvo, hi, hile, w3, List.length_map, List.length_replicate, w7, hEl, hi1, hi2, hi3, hi4, hmin, hcl]) | (with_reducible refine tw_split (fun hb => ?_) (fun hb => ?_) <;> try simp only [go_sem, hb, hnew, hset, hold, hvo, hi, hile, w3, List.length_map, List.length_replicate, w7, hEl, hi1, hi2, hi3, hi4, hmin, hcl]) | (with_reducible refine draw_at 0 46 (by with_unfolding_all rfl) [(0, true, true), (1, true, true), (2, true, true), (3, true, true), (4, true, true), (5, true, true), (6, false, true), (7, false, true), (8, false, true)] (by kernel_rfl) ?_ <;> try simp only [go_sem, hnew, hset, hold, hvo, hi, hile, w3, List.length_map, List.length_replicate, w7, hEl, hi1, hi2, hi3, hi4, hmin, hcl]) | (with_reducible refine draw_at 0 69 (by with_unfolding_all rfl) [(0, true, true), (1, true, true), (2, true, true), (3, true, true), (4, true, true), (5, true, true), (6, false, true), (7, false, true), (8, false, true)] (by kernel_rfl) ?_ <;> try simp only [go_sem, hnew, hset, hold, hvo, hi, hile, w3, List.length_map, List.length_replicate, w7, hEl, hi1, hi2, hi3, hi4, hmin, hcl]) | (fail))
      have hm2 : min (List.take (xs.length - i) (List.drop i (xs.map fileC))).length (xs.length + 1 - (i + 1)) = xs.length - i := by simp
      have htt : List.take (xs.length - i) (List.take (xs.length - i) (List.drop i (xs.map fileC))) = List.take (xs.length - i) (List.drop i (xs.map fileC)) := by rw [List.take_take, Nat.min_self]
      have hnw := ins_new (xs.map fileC) [.c (.int .i64 (0)), .c (.string (⟨#[]⟩)), .c (.string (⟨#[]⟩))] [.c (.int .i64 (x.name)), .c (.string (x.safe)), .c (.string (x.late))] i xs.length (by simp) hi
      rw [hE] at hnw
      simp only [cset] at hnw
      have hI : List.take i (xs.map fileC) ++ [.c (.int .i64 (x.name)), .c (.string (x.safe)), .c (.string (x.late))] :: List.drop i (xs.map fileC) = (insAt xs i x).map fileC := by simp [insAt, fileC, List.map_take, List.map_drop]
      rw [hI] at hnw
      refine cp_sl (news := (List.drop i (xs.map fileC)).take (xs.length - i)) (by simp only [row_sl, objR_at, hold, obR_own, rw_some, List.length_map, hdl, Nat.le_refl, if_true]) (hnew _ _) (by simp; omega) ?_
      simp only [hm2, htt, hnw, hset]
      (try simp only [go_sem, hnew, hset, hold, hvo]); repeat' (first | (with_reducible refine c_split (fun hb => ?_) (fun hb => ?_) <;> try simp only [go_sem, hb, hnew, hset, hold, hvo]) | (with_reducible refine w_split (fun hb => ?_) (fun hb => ?_) <;> try simp only [go_sem, hb, hnew, hset, hold, hvo]) | (with_reducible refine tw_split (fun hb => ?_) (fun hb => ?_) <;> try simp only [go_sem, hb, hnew, hset, hold, hvo]) | (with_reducible refine draw_at 0 46 (by with_unfolding_all rfl) [(0, true, true), (1, true, true), (2, true, true), (3, true, true), (4, true, true), (5, true, true), (6, false, true), (7, false, true), (8, false, true)] (by kernel_rfl) ?_ <;> try simp only [go_sem, hnew, hset, hold, hvo]) | (with_reducible refine draw_at 0 69 (by with_unfolding_all rfl) [(0, true, true), (1, true, true), (2, true, true), (3, true, true), (4, true, true), (5, true, true), (6, false, true), (7, false, true), (8, false, true)] (by kernel_rfl) ?_ <;> try simp only [go_sem, hnew, hset, hold, hvo]) | (fail))
      refine hQ (h0.set l (.own (g + 1) 55 3 none ((insAt xs i x).map fileC))) _ _ ?_; refine GC.step (Ghost.move (l := l) (l' := h0.length) (n := xs.length + 1) 6 (by simp only [go_sem]) (hold _ _) (hnew _ _) (by omega)) (GC.now (ret_m (by simp only [go_sem, Try.f86, hlt]; exact _root_.id rfl) (by simp only [go_sem]) (by simp) (by first | exact hwf | exact wf_set hwf (by simp only [go_sem, hlt]) | exact wf_set2 hwf (by simp only [go_sem, hlt]) (by simp only [go_sem, hlt]) | (simp only [go_sem]; done)) (by first | exact ⟨[.dead], by rw [List.set_append_left _ _ (by simpa using hlt), List.set_append_right _ _ (by simp)]; simp⟩ | exact ⟨_, _root_.id rfl⟩ | exact ⟨[], (List.append_nil _).symm⟩) ?_)) <;> simp only [go_sem, hlt]
      exact hk _
    · have hb : decide (((c - 0 : Nat) : Int) < ((xs.length + 1 : Nat) : Int)) = false := decide_eq_false (by omega)
      right
      have hcl0 : (spareE 3 c (xs.map fileC)).length = c := by simp [spareE]; simp at hc1; omega
      have hcc : xs.length + 1 ≤ c := by omega
      have htk : (spareE 3 c (xs.map fileC)).take xs.length = xs.map fileC := by rw [spareE, List.take_append_of_le_length (by simp)]; exact List.take_of_length_le (by simp)
      generalize hE : spareE 3 c (xs.map fileC) = E at *
      have hi1 : i < c := by omega
      have hi2 : i ≤ xs.length + 1 := by omega
      have hi3 : i + 1 < c := by omega
      have hi4 : i + 1 ≤ xs.length + 1 := by omega
      have hi5 : xs.length ≤ c := by omega
      (try simp only [go_sem, hall, hvv, BEq.rfl, hi, hile, w1, w2, w3, w4, w5, w6, h10, h1c, hb, hcl0, hcc, hi1, hi2, hi3, hi4, hi5]); repeat' (first | (with_reducible refine c_split (fun hb => ?_) (fun hb => ?_) <;> try simp only [go_sem, hb, hall, hvv, BEq.rfl, hi, hile, w1, w2, w3, w4, w5, w6, h10, h1c, hb, hcl0, hcc, hi1, hi2, hi3, hi4, hi5]) | (with_reducible refine w_split (fun hb => ?_) (fun hb => ?_) <;> try simp only [go_sem, hb, hall, hvv, BEq.rfl, hi, hile, w1, w2, w3, w4, w5, w6, h10, h1c, hb, hcl0, hcc, hi1, hi2, hi3, hi4, hi5]) | (with_reducible refine tw_split (fun hb => ?_) (fun hb => ?_) <;> try simp only [go_sem, hb, hall, hvv, BEq.rfl, hi, hile, w1, w2, w3, w4, w5, w6, h10, h1c, hb, hcl0, hcc, hi1, hi2, hi3, hi4, hi5]) | (with_reducible refine draw_at 0 46 (by with_unfolding_all rfl) [(0, true, true), (1, true, true), (2, true, true), (3, true, true), (4, true, true), (5, true, true), (6, false, true), (7, false, true), (8, false, true)] (by kernel_rfl) ?_ <;> try simp only [go_sem, hall, hvv, BEq.rfl, hi, hile, w1, w2, w3, w4, w5, w6, h10, h1c, hb, hcl0, hcc, hi1, hi2, hi3, hi4, hi5]) | (with_reducible refine draw_at 0 69 (by with_unfolding_all rfl) [(0, true, true), (1, true, true), (2, true, true), (3, true, true), (4, true, true), (5, true, true), (6, false, true), (7, false, true), (8, false, true)] (by kernel_rfl) ?_ <;> try simp only [go_sem, hall, hvv, BEq.rfl, hi, hile, w1, w2, w3, w4, w5, w6, h10, h1c, hb, hcl0, hcc, hi1, hi2, hi3, hi4, hi5]) | (refine call_e (x_overlaps Try.func89 (by kernel_rfl) (by kernel_rfl) (by kernel_rfl) (e := 55) (tS := 24) (tR := 4) (k := 3) (by kernel_rfl) (by kernel_rfl) (by kernel_rfl) (hvv _) (hall _) (Ne.symm hne) (by decide) (by simp) (by intro q; subst q; simp at hcl0; omega) ?_) <;> try simp only [go_sem, hall, hvv, BEq.rfl, hi, hile, w1, w2, w3, w4, w5, w6, h10, h1c, hb, hcl0, hcc, hi1, hi2, hi3, hi4, hi5]) | (fail))
      have hd1 : i + (xs.length + 1 - i) ≤ c := by omega
      have hm1 : min ((E.drop i).take (xs.length + 1 - i)).length (xs.length + 1 - (i + 1)) = xs.length - i := by simp; omega
      have ht1 : ((E.drop i).take (xs.length + 1 - i)).take (xs.length - i) = (E.drop i).take (xs.length - i) := by rw [List.take_take]; congr 1; omega
      have hmin : min 1 (xs.length + 1 - i) = 1 := by omega
      have hcl : ∀ y, (cset E (i + 1) y).length = c := fun y => by rw [cset_length]; exact hcl0
      have hio := ins_old E (xs.map fileC) [.c (.int .i64 (x.name)), .c (.string (x.safe)), .c (.string (x.late))] i xs.length (by omega) htk (by simp) hi
      have hI : List.take i (xs.map fileC) ++ [.c (.int .i64 (x.name)), .c (.string (x.safe)), .c (.string (x.late))] :: List.drop i (xs.map fileC) = (insAt xs i x).map fileC := by simp [insAt, fileC, List.map_take, List.map_drop]
      rw [hI] at hio
      refine cp_sl (news := (E.drop i).take (xs.length + 1 - i)) (by simp only [row_sl, objR_at, hall, obR_own, rw_some, hcl0, hd1, if_true]) (hall _) (by omega) ?_
      simp only [hm1, ht1]
      (try simp only [go_sem, hall, hvv, hi, hile, w1, w3, hcl, hcc, hi1, hi2, hi3, hi4, hi5]); repeat' (first | (with_reducible refine c_split (fun hb => ?_) (fun hb => ?_) <;> try simp only [go_sem, hb, hall, hvv, hi, hile, w1, w3, hcl, hcc, hi1, hi2, hi3, hi4, hi5]) | (with_reducible refine w_split (fun hb => ?_) (fun hb => ?_) <;> try simp only [go_sem, hb, hall, hvv, hi, hile, w1, w3, hcl, hcc, hi1, hi2, hi3, hi4, hi5]) | (with_reducible refine tw_split (fun hb => ?_) (fun hb => ?_) <;> try simp only [go_sem, hb, hall, hvv, hi, hile, w1, w3, hcl, hcc, hi1, hi2, hi3, hi4, hi5]) | (with_reducible refine draw_at 0 46 (by with_unfolding_all rfl) [(0, true, true), (1, true, true), (2, true, true), (3, true, true), (4, true, true), (5, true, true), (6, false, true), (7, false, true), (8, false, true)] (by kernel_rfl) ?_ <;> try simp only [go_sem, hall, hvv, hi, hile, w1, w3, hcl, hcc, hi1, hi2, hi3, hi4, hi5]) | (with_reducible refine draw_at 0 69 (by with_unfolding_all rfl) [(0, true, true), (1, true, true), (2, true, true), (3, true, true), (4, true, true), (5, true, true), (6, false, true), (7, false, true), (8, false, true)] (by kernel_rfl) ?_ <;> try simp only [go_sem, hall, hvv, hi, hile, w1, w3, hcl, hcc, hi1, hi2, hi3, hi4, hi5]) | (fail))
      refine cp_sl (news := [fileC x]) (by simp only [row_sl, objR_at, hvv, obR_own, rw_some]; rfl) (hall _) (by rw [hcl]; omega) ?_
      (try simp only [go_sem, hall, hvv, hmin]); repeat' (first | (with_reducible refine c_split (fun hb => ?_) (fun hb => ?_) <;> try simp only [go_sem, hb, hall, hvv, hmin]) | (with_reducible refine w_split (fun hb => ?_) (fun hb => ?_) <;> try simp only [go_sem, hb, hall, hvv, hmin]) | (with_reducible refine tw_split (fun hb => ?_) (fun hb => ?_) <;> try simp only [go_sem, hb, hall, hvv, hmin]) | (with_reducible refine draw_at 0 46 (by with_unfolding_all rfl) [(0, true, true), (1, true, true), (2, true, true), (3, true, true), (4, true, true), (5, true, true), (6, false, true), (7, false, true), (8, false, true)] (by kernel_rfl) ?_ <;> try simp only [go_sem, hall, hvv, hmin]) | (with_reducible refine draw_at 0 69 (by with_unfolding_all rfl) [(0, true, true), (1, true, true), (2, true, true), (3, true, true), (4, true, true), (5, true, true), (6, false, true), (7, false, true), (8, false, true)] (by kernel_rfl) ?_ <;> try simp only [go_sem, hall, hvv, hmin]) | (fail))
      refine hQ (h0.set l (.own g 55 3 none ((insAt xs i x).map fileC))) _ _ ?_; refine GC.step (Ghost.cut (l := l) (hall _) (xs.length + 1)) (GC.now (ret_m (by simp only [go_sem, Try.f86, hlt]; exact _root_.id rfl) (by simp only [go_sem]) (by simp) (by first | exact hwf | exact wf_set hwf (by simp only [go_sem, hlt]) | exact wf_set2 hwf (by simp only [go_sem, hlt]) (by simp only [go_sem, hlt]) | (simp only [go_sem]; done)) (by first | exact ⟨[], by simp only [List.set_set, hio, List.append_nil]⟩ | exact ⟨_, _root_.id rfl⟩ | exact ⟨[], (List.append_nil _).symm⟩) ?_)) <;> simp only [go_sem, hlt]
      exact hk _
end Go.Proofs.Ytaahlnjldenhpaa
