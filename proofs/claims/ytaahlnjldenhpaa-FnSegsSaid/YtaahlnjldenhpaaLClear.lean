/- Clear: a disk cleared of its segments but some, as the program and as the specification does it. Conditions: none. -/
import Derived.Test.YtaahlnjldenhpaaLG
import Derived.Test.YtaahlnjldenhpaaLT
import Derived.Test.YtaahlnjldenhpaaLRows
namespace Go.Proofs.Ytaahlnjldenhpaa
open Go.BL Go.RowKit
set_option linter.unusedVariables false
set_option linter.unusedSimpArgs false
set_option maxRecDepth 100000
attribute [local go_sem] fileC diskC fileC_len intC
theorem c_Clone (fs : List File) (hn : fs.length ≤ 1000000000) (K : AV → AH → Prop) (hk : ∀ cap, K (.one (.sl 0 0 0 fs.length)) [.own 0 55 3 cap (fs.map fileC)]) : ACalls Try.prog 59 [(.one (.im (fs.map fileC)))] [] K := by
  refine acall_c Try.f59.results.toList mixed Try.func59 rfl rfl (by kernel_rfl) ?_
  intro Q hQ hQO
  simp only [go_sem]
  by_cases hf : fs = []
  · subst hf
    simp only [go_sem, nq_im0, nqG]
    intro b
    (try simp only [go_sem]); repeat' (first | (with_reducible refine c_split (fun hb => ?_) (fun hb => ?_) <;> try simp only [go_sem, hb]) | (with_reducible refine w_split (fun hb => ?_) (fun hb => ?_) <;> try simp only [go_sem, hb]) | (fail))
    · refine hQO [0] _ _ (GC.step (Ghost.nlr 2 (by simp only [go_sem]) 55 3) (GC.now ?_)) <;> simp only [Try.f59, go_sem, List.nodup_cons, List.nodup_nil, List.mem_cons, List.not_mem_nil, or_false, not_false_eq_true, List.idxOf?_cons, List.idxOf?_nil, Option.map_none]
      exact hk _
    · refine ap_end rfl rfl (by decide) ?_
      (try simp only [go_sem]); repeat' (first | (with_reducible refine c_split (fun hb => ?_) (fun hb => ?_) <;> try simp only [go_sem, hb]) | (with_reducible refine w_split (fun hb => ?_) (fun hb => ?_) <;> try simp only [go_sem, hb]) | (fail))
      refine hQO [0] _ _ (GC.now ?_) <;> simp only [Try.f59, go_sem, List.nodup_cons, List.nodup_nil, List.mem_cons, List.not_mem_nil, or_false, not_false_eq_true, List.idxOf?_cons, List.idxOf?_nil, Option.map_none]
      exact hk _
  · have hne : fs.map fileC ≠ [] := by simpa using hf
    (try simp only [go_sem, nq_im _ hne, nqG]); repeat' (first | (with_reducible refine c_split (fun hb => ?_) (fun hb => ?_) <;> try simp only [go_sem, hb, nq_im _ hne, nqG]) | (with_reducible refine w_split (fun hb => ?_) (fun hb => ?_) <;> try simp only [go_sem, hb, nq_im _ hne, nqG]) | (fail))
    refine ap_end rfl rfl (by simp; omega) ?_
    (try simp only [go_sem, Nat.zero_add]); repeat' (first | (with_reducible refine c_split (fun hb => ?_) (fun hb => ?_) <;> try simp only [go_sem, hb, Nat.zero_add]) | (with_reducible refine w_split (fun hb => ?_) (fun hb => ?_) <;> try simp only [go_sem, hb, Nat.zero_add]) | (fail))
    refine hQO [0] _ _ (GC.now ?_) <;> simp only [Try.f59, go_sem, List.nodup_cons, List.nodup_nil, List.mem_cons, List.not_mem_nil, or_false, not_false_eq_true, List.idxOf?_cons, List.idxOf?_nil, Option.map_none]
    exact hk _
theorem c_cloneDisk (d : Disk) (hn : d.files.length ≤ 1000000000) (K : AV → AH → Prop) (hk : ∀ cap, K (.agg [.c (.int .i64 (d.room)), .sl 0 0 0 d.files.length]) [.own 0 55 3 cap (d.files.map fileC)]) : ACalls Try.prog 28 [.agg (diskC d)] [] K := by
  refine acall_c Try.f28.results.toList mixed Try.func28 rfl rfl (by kernel_rfl) ?_
  intro Q hQ hQO
  simp only [go_sem]
  (try simp only [go_sem]); repeat' (first | (with_reducible refine c_split (fun hb => ?_) (fun hb => ?_) <;> try simp only [go_sem, hb]) | (with_reducible refine w_split (fun hb => ?_) (fun hb => ?_) <;> try simp only [go_sem, hb]) | (with_reducible refine tw_split (fun hb => ?_) (fun hb => ?_) <;> try simp only [go_sem, hb]) | (with_reducible refine draw_at 0 3 (by with_unfolding_all rfl) [(0, true, true), (1, true, true), (2, false, false), (3, false, false), (4, false, false), (5, false, true), (6, false, true)] (by kernel_rfl) ?_ <;> try simp only [go_sem]) | (refine call_c (c_Clone _ hn _ (fun cap => ?_)) <;> try simp only [go_sem]) | (fail))
  refine hQO [2] _ _ (GC.now ?_) <;> simp only [Try.f28, go_sem, List.nodup_cons, List.nodup_nil, List.mem_cons, List.not_mem_nil, or_false, not_false_eq_true, List.idxOf?_cons, List.idxOf?_nil, Option.map_none]
  exact hk _
/-- A closure that tells 'p' of a file, on any heap that keeps what it holds. -/
def CloB (g : Nat) (caps : List Nat) (h0 : AH) (p : File → Bool) : Prop := ∀ (h1 : AH) (x : File) (K' : AV → AH → Prop), (∀ c ∈ caps, h1[c]? = h0[c]?) → K' (.one (.c (.bool (p x)))) h1 → callA Try.prog g ([.agg (fileC x)] ++ caps.map fun l => .one (.pt l 0 0 0)) h1 K'
theorem c_IndexFunc_sl (xs : List File) (l g : Nat) (cap : Option Nat) (gf : Nat) (caps : List Nat) (p : File → Bool) (h0 : AH) (hl : h0[l]? = some (.own g 55 3 cap (xs.map fileC))) (hn : xs.length ≤ 1000000000) (hp : CloB gf caps h0 p)
    (K : AV → AH → Prop) (hk : K (.one (.c (.int .i64 (findG p xs)))) h0) : ACalls Try.prog 60 [.one (.sl l g 0 xs.length), .one (.clo gf caps)] h0 K := by
  refine acall_m Try.f60.results.toList mixed Try.func60 rfl rfl (by kernel_rfl) ?_
  intro hwf Q hQ
  simp only [go_sem, hl, ca_clos]
  refine for_at (xs.length) [0, 1, 7] (fun i f h => f 8 = (.one (.c (.int .i64 (i)))) ∧ f 7 = (.one (.c (.int .i64 (xs.length)))) ∧ h = h0 ∧ noneTo p xs i) (GC.now ?_) ?_
  · simp only [go_sem, nc_0, true_and, hl, ca_clos]
    exact noneTo_0 p xs
  · rintro i f h J hi hA ⟨e8, e7, rfl, hP⟩ hJ
    simp only [go_sem, hl, ca_clos] at hA
    simp only [go_sem, hA, e8, e7, hl, ca_clos]
    refine c_split (fun hb => ?_) (fun hb => ?_)
    rotate_left
    · simp only [go_sem, hb, hA, e8, e7, hl, ca_clos]
      obtain rfl := ge_len hb hi
      refine hQ (h) _ _ ?_; refine GC.now (ret_m (by simp only [go_sem, Try.f60, hA, e8, e7, hl, ca_clos]; exact _root_.id rfl) (by simp only [go_sem]) (by simp) (by first | exact hwf | exact wf_set hwf (by simp only [go_sem, hA, e8, e7, hl, ca_clos]) | exact wf_set2 hwf (by simp only [go_sem, hA, e8, e7, hl, ca_clos]) (by simp only [go_sem, hA, e8, e7, hl, ca_clos]) | (simp only [go_sem]; done)) (by first | exact ⟨_, _root_.id rfl⟩ | exact ⟨[], (List.append_nil _).symm⟩) ?_) <;> simp only [go_sem, hA, e8, e7, hl, ca_clos]
      rw [findG_no hP] at hk
      exact hk
    have hi := lt_len hb
    have hw := wrap_nat i (by omega)
    have hil : (i : Int) < ((xs.length : Nat) : Int) := Int.ofNat_lt.2 hi
    have hg0 : (xs)[i]? = some ((xs)[i]) := List.getElem?_eq_getElem (by omega)
    simp only [go_sem, hb, hA, e8, e7, hl, ca_clos, hg0]
    try simp only [go_sem, hA, e8, e7, hl, ca_clos, hil, hg0]
    refine hp _ _ _ (fun _ _ => rfl) ?_
    simp only [go_sem, hA, e8, e7, hl, ca_clos, hil, hg0]
    (try simp only [go_sem, hA, e8, e7, hl, ca_clos, hil, hg0]); repeat' (first | (with_reducible refine c_split (fun hb => ?_) (fun hb => ?_) <;> try simp only [go_sem, hb, hA, e8, e7, hl, ca_clos, hil, hg0]) | (with_reducible refine w_split (fun hb => ?_) (fun hb => ?_) <;> try simp only [go_sem, hb, hA, e8, e7, hl, ca_clos, hil, hg0]) | (fail))
    · refine hQ (h) _ _ ?_; refine GC.now (ret_m (by simp only [go_sem, Try.f60, hA, e8, e7, hl, ca_clos, hil, hg0]; exact _root_.id rfl) (by simp only [go_sem]) (by simp) (by first | exact hwf | exact wf_set hwf (by simp only [go_sem, hA, e8, e7, hl, ca_clos, hil, hg0]) | exact wf_set2 hwf (by simp only [go_sem, hA, e8, e7, hl, ca_clos, hil, hg0]) (by simp only [go_sem, hA, e8, e7, hl, ca_clos, hil, hg0]) | (simp only [go_sem]; done)) (by first | exact ⟨_, _root_.id rfl⟩ | exact ⟨[], (List.append_nil _).symm⟩) ?_) <;> simp only [go_sem, hA, e8, e7, hl, ca_clos, hil, hg0]
      rw [findG_of hP hi hb] at hk
      exact hk
    · refine GC.now (hJ _ _ hi (by simp only [go_sem, hA, e8, e7, hl, ca_clos]) ⟨?_, ?_, ?_, ?_⟩) <;> try simp only [go_sem, hA, e8, e7, hl, ca_clos, hw]
      exact noneTo_s hP hi hb
theorem findG_cases {α : Type} (p : α → Bool) (xs : List α) : (findG p xs = -1 ∧ xs.filter (fun x => !p x) = xs) ∨ ∃ (i : Nat) (hi : i < xs.length), findG p xs = i ∧ p xs[i] = true ∧ (xs.take (i + 1)).filter (fun x => !p x) = xs.take i := by
  unfold findG
  cases hf : xs.findIdx? p with
  | none =>
    rw [List.findIdx?_eq_none_iff] at hf
    exact .inl ⟨rfl, List.filter_eq_self.2 fun x hx => by simp [hf x hx]⟩
  | some i =>
    rw [List.findIdx?_eq_some_iff_getElem] at hf
    obtain ⟨hi, h1, h2⟩ := hf
    refine .inr ⟨i, hi, rfl, h1, ?_⟩
    rw [List.take_succ_eq_append_getElem hi, List.filter_append, List.filter_eq_self.2]
    · simp [h1]
    · intro x hx
      obtain ⟨j, hj, rfl⟩ := List.mem_iff_getElem.1 hx
      simp only [List.length_take] at hj
      have := h2 j (by omega)
      simpa using this
theorem del_arith {a m j n : Nat} (h : a + 1 + m = j) (hj : j < n) (hn : n ≤ 1000000000) : a < 9223372036854775807 ∧ j < 9223372036854775807 ∧ (a : Int) < (n : Int) ∧ n - (j + 1) < n - j ∧ j + 1 ≤ n ∧ a + 1 + 1 + m = j + 1 ∧ a + 1 + (m + 1) = j + 1 := by omega
theorem set_mid {α : Type} (A : List α) (m : α) (B : List α) (x : α) : (A ++ m :: B).set A.length x = A ++ x :: B := by
  rw [List.set_append_right _ _ (Nat.le_refl _), Nat.sub_self]; rfl
theorem c_DeleteFunc (xs : List File) (l g : Nat) (cap : Option Nat) (gf : Nat) (caps : List Nat) (p : File → Bool) (h0 : AH) (hl : h0[l]? = some (.own g 55 3 cap (xs.map fileC))) (hn : xs.length ≤ 1000000000) (hp : CloB gf caps h0 p) (hcl : l ∉ caps) (hct : caps.all (fun c => decide (c < h0.length)) = true)
    (K : AV → AH → Prop) (hk : ∀ rest : List File, K (.one (.sl l g 0 (xs.filter fun x => !p x).length)) (h0.set l (.own g 55 3 cap ((xs.filter (fun x => !p x) ++ rest).map fileC)))) : ACalls Try.prog 29 [.one (.sl l g 0 xs.length), .one (.clo gf caps)] h0 K := by
  have hlt := (List.getElem?_eq_some_iff.1 hl).1
  have hall : ∀ o, (h0.set l o)[l]? = some o := set_at hl
  refine acall_m Try.f29.results.toList mixed Try.func29 rfl rfl (by kernel_rfl) ?_
  intro hwf Q hQ
  simp only [go_sem, hl]
  refine call_h (c_IndexFunc_sl xs l g cap gf caps p h0 hl hn hp _ ?_)
  simp only [go_sem]
  rcases findG_cases p xs with ⟨hf, hx⟩ | ⟨i0, hi0, hf, hx, hx2⟩
  · (try simp only [go_sem, hf, BEq.rfl]); repeat' (first | (with_reducible refine c_split (fun hb => ?_) (fun hb => ?_) <;> try simp only [go_sem, hb, hf, BEq.rfl]) | (with_reducible refine w_split (fun hb => ?_) (fun hb => ?_) <;> try simp only [go_sem, hb, hf, BEq.rfl]) | (fail))
    refine hQ (h0) _ _ ?_; refine GC.now (ret_m (by simp only [go_sem, Try.f29, hlt]; exact _root_.id rfl) (by simp only [go_sem]) (by simp) (by first | exact hwf | exact wf_set hwf (by simp only [go_sem, hlt]) | exact wf_set2 hwf (by simp only [go_sem, hlt]) (by simp only [go_sem, hlt]) | (simp only [go_sem]; done)) (by first | exact ⟨_, _root_.id rfl⟩ | exact ⟨[], (List.append_nil _).symm⟩) ?_) <;> simp only [go_sem, hlt]
    have := hk []
    rw [hx, List.append_nil, set_same hl] at this
    exact this
  have h1 : ((i0 : Int) == -1) = false := by simp
  have hw := wrap_nat i0 (by omega)
  have hmin : (xs.take i0).length = i0 := by simp; omega
  have hsp : xs.take i0 ++ xs[i0] :: xs.drop (i0 + 1) = xs := by rw [← List.drop_eq_getElem_cons hi0, List.take_append_drop]
  (try simp only [go_sem, hf, h1, hw]); repeat' (first | (with_reducible refine c_split (fun hb => ?_) (fun hb => ?_) <;> try simp only [go_sem, hb, hf, h1, hw]) | (with_reducible refine w_split (fun hb => ?_) (fun hb => ?_) <;> try simp only [go_sem, hb, hf, h1, hw]) | (fail))
  refine while_at (α := Nat × File × List File) (fun ⟨j, m, mid⟩ => xs.length - j) [0, 1] (fun ⟨j, m, mid⟩ f h => f 5 = (.one (.c (.int .i64 ((((xs.take j).filter fun x => !p x).length : Nat))))) ∧ f 6 = (.one (.c (.int .i64 (j)))) ∧ h = h0.set l (.own g 55 3 cap (((xs.take j).filter (fun x => !p x) ++ m :: (mid ++ xs.drop j)).map fileC)) ∧ j ≤ xs.length ∧ ((xs.take j).filter fun x => !p x).length + 1 + mid.length = j) (i0 + 1, xs[i0], []) (GC.now ?_) ?_
  · simp only [go_sem, nc_0, true_and, hall, hlt, hct, tr_clo, ca_clos]
    rw [hx2]; simp only [hmin, hsp, List.nil_append, set_same hl, true_and]; exact ⟨by omega, by simp⟩
  · rintro ⟨j, m, mid⟩ f h J hA ⟨e5, e6, rfl, hP⟩ hJ
    simp only [go_sem, hall, hlt, hct, tr_clo, ca_clos] at hA
    try dsimp only at hJ
    simp only [go_sem, hA, e5, e6, hall, hlt, hct, tr_clo, ca_clos]
    obtain ⟨hj, hjm⟩ := hP
    generalize hAf : (xs.take j).filter (fun x => !p x) = A at *
    refine c_split (fun hb => ?_) (fun hb => ?_)
    · have hi := lt_len hb
      obtain ⟨ar1, ar2, hAi, ar4, ar5, ar6, ar7⟩ := del_arith hjm hi hn
      have hw := wrap_nat j ar2
      have hil : (j : Int) < (xs.length : Int) := Int.ofNat_lt.2 hi
      have hgj : (A ++ m :: (mid ++ xs.drop j))[j]? = some xs[j] := by
        rw [show A ++ m :: (mid ++ xs.drop j) = (A ++ m :: mid) ++ xs.drop j by simp, List.getElem?_append_right (by simp; omega), List.drop_eq_getElem_cons hi]
        rw [show j - (A ++ m :: mid).length = 0 by simp; omega]; rfl
      have hcap : ∀ o a, ∀ c ∈ caps, (h0.set l o ++ a)[c]? = h0[c]? := fun o a c hc => by
        have h1 : c < h0.length := by simpa using List.all_eq_true.1 hct c hc
        rw [List.getElem?_append_left (by simpa using h1), List.getElem?_set_ne (by rintro rfl; exact hcl hc)]
      have htk : (xs.take (j + 1)).filter (fun x => !p x) = A ++ (if p xs[j] = true then [] else [xs[j]]) := by
        rw [List.take_succ_eq_append_getElem hi, List.filter_append, hAf]
        cases hpj : p xs[j] <;> simp [hpj]
      have hmid : mid ++ xs.drop j = (mid ++ [xs[j]]) ++ xs.drop (j + 1) := by rw [List.drop_eq_getElem_cons hi]; simp
      have hnew : ∀ (o : AO) (a : AO), (h0.set l o ++ [a])[h0.length]? = some a := fun o a => by rw [List.getElem?_append_right (by simp)]; simp
      have hset : ∀ (o : AO) (a b : AO), (h0.set l o ++ [a]).set h0.length b = h0.set l o ++ [b] := fun o a b => by rw [List.set_append_right _ _ (by simp)]; simp
      have hold : ∀ (o : AO) (a : List AO), (h0.set l o ++ a)[l]? = some o := fun o a => h_old a (hall o)
      have hset2 : ∀ (o b : AO) (a : List AO), (h0.set l o ++ a).set l b = h0.set l b ++ a := fun o b a => by rw [List.set_append_left _ _ (by simpa using hlt)]; simp
      have hgA : (A ++ m :: (mid ++ xs.drop j))[A.length]? = some m := by rw [List.getElem?_append_right (Nat.le_refl _), Nat.sub_self]; rfl
      simp only [go_sem, hb, hA, e5, e6, hall, hlt, hct, tr_clo, ca_clos, hgj]
      simp only [go_sem, hA, e5, e6, hall, hlt, hct, tr_clo, ca_clos, hil, hgj, hnew, hset]
      refine hp _ _ _ (hcap _ _) ?_
      (try simp only [go_sem, hA, e5, e6, hall, hlt, hct, tr_clo, ca_clos, hgj, hAi, hgA, set_mid, hnew, hset, hold, hset2]); repeat' (first | (with_reducible refine c_split (fun hb => ?_) (fun hb => ?_) <;> try simp only [go_sem, hb, hA, e5, e6, hall, hlt, hct, tr_clo, ca_clos, hgj, hAi, hgA, set_mid, hnew, hset, hold, hset2]) | (with_reducible refine w_split (fun hb => ?_) (fun hb => ?_) <;> try simp only [go_sem, hb, hA, e5, e6, hall, hlt, hct, tr_clo, ca_clos, hgj, hAi, hgA, set_mid, hnew, hset, hold, hset2]) | (fail))
      · have hpj : p xs[j] = false := by simpa using hb
        have htk2 : (xs.take (j + 1)).filter (fun x => !p x) = A ++ [xs[j]] := by rw [htk, hpj]; rfl
        obtain ⟨m', mid', e⟩ : ∃ m' mid', mid ++ [xs[j]] = m' :: mid' := by cases mid with
          | nil => exact ⟨_, _, rfl⟩
          | cons a r => exact ⟨_, _, rfl⟩
        have e2 : A ++ xs[j] :: (mid ++ xs.drop j) = (A ++ [xs[j]]) ++ m' :: (mid' ++ xs.drop (j + 1)) := by rw [hmid, e]; simp
        have hl2 : mid'.length = mid.length := by have := congrArg List.length e; simp only [List.length_append, List.length_cons, List.length_nil, Nat.zero_add] at this; exact (Nat.succ.inj this).symm
        have hwA := wrap_nat A.length ar1
        have hA1 : (A ++ [xs[j]]).length = A.length + 1 := by simp
        refine gc_trim h0.length (Nat.le_refl _) (by simp) (by rw [take_app _ _ (by simp)]; first | exact hwf | exact wf_set hwf (by simp only [go_sem, htk2, hwA, hA1, e2])) (hJ (j + 1, m', mid') _ _ (by exact ar4) (by simp only [go_sem, hA, e5, e6, hall, hlt, hct, tr_clo, ca_clos, htk2, hwA, hA1, e2]) ⟨?_, ?_, ?_, ?_⟩) <;> try simp only [go_sem, take_app, hA, e5, e6, hall, hlt, hct, tr_clo, ca_clos, hw, htk2, hwA, hA1, e2]
        exact ⟨ar5, by rw [hl2]; exact ar6⟩
      · have hpj : p xs[j] = true := by simpa using hb
        have htk2 : (xs.take (j + 1)).filter (fun x => !p x) = A := by rw [htk, hpj]; simp
        have e2 : A ++ m :: (mid ++ xs.drop j) = A ++ m :: (mid ++ [xs[j]] ++ xs.drop (j + 1)) := by rw [hmid]
        refine gc_trim h0.length (Nat.le_refl _) (by simp) (by rw [take_app _ _ (by simp)]; first | exact hwf | exact wf_set hwf (by simp only [go_sem, htk2, e2])) (hJ (j + 1, m, mid ++ [xs[j]]) _ _ (by exact ar4) (by simp only [go_sem, hA, e5, e6, hall, hlt, hct, tr_clo, ca_clos, htk2, e2]) ⟨?_, ?_, ?_, ?_⟩) <;> try simp only [go_sem, take_app, hA, e5, e6, hall, hlt, hct, tr_clo, ca_clos, hw, htk2, e2]
        exact ⟨ar5, ar7⟩
    · simp only [go_sem, hb, hA, e5, e6, hall, hlt, hct, tr_clo, ca_clos]
      obtain rfl := ge_len hb hj
      rw [List.take_length] at hAf
      subst hAf
      have hz : ((xs.filter fun x => !p x) ++ m :: (mid ++ xs.drop xs.length)).length = xs.length := by rw [List.drop_length]; simp; omega
      have hA0 : (xs.filter fun x => !p x).length < xs.length := by omega
      have hA1 : (xs.filter fun x => !p x).length ≤ xs.length := Nat.le_of_lt hA0
      have hd0 : xs.drop xs.length = [] := List.drop_length
      rw [hd0] at hz ⊢
      rw [List.append_nil] at hz ⊢
      have hle : (List.filter (fun x => !p x) xs ++ m :: mid).length = xs.length := hz
      simp only [go_sem, hall, hA0, hA1, hd0, hz]
      refine cr_sl (by decide) (hall _) (by simp only [List.length_map, hle]; omega) ?_
      rw [cset_end _ _ _ (by simp only [List.length_map, hle, List.length_replicate]; omega)]
      have htk3 : (List.map fileC (xs.filter (fun x => !p x) ++ m :: mid)).take (xs.filter fun x => !p x).length = (xs.filter fun x => !p x).map fileC := by rw [← List.map_take, List.take_left]
      have hrep := fileC_rep (xs.length - (xs.filter fun x => !p x).length) 0 ⟨#[]⟩ ⟨#[]⟩
      rw [htk3, hrep, ← List.map_append]
      have hl3 : (xs.filter (fun x => !p x) ++ List.replicate (xs.length - (xs.filter fun x => !p x).length) (⟨0, ⟨#[]⟩, ⟨#[]⟩⟩ : File)).length = xs.length := by simp; omega
      (try simp only [go_sem, hA, e5, e6, hall, hlt, hct, tr_clo, ca_clos, hA1, hl3, Nat.zero_add]); repeat' (first | (with_reducible refine c_split (fun hb => ?_) (fun hb => ?_) <;> try simp only [go_sem, hb, hA, e5, e6, hall, hlt, hct, tr_clo, ca_clos, hA1, hl3, Nat.zero_add]) | (with_reducible refine w_split (fun hb => ?_) (fun hb => ?_) <;> try simp only [go_sem, hb, hA, e5, e6, hall, hlt, hct, tr_clo, ca_clos, hA1, hl3, Nat.zero_add]) | (fail))
      refine hQ (h0.set l (.own g 55 3 cap ((xs.filter (fun x => !p x) ++ List.replicate (xs.length - (xs.filter fun x => !p x).length) (⟨0, ⟨#[]⟩, ⟨#[]⟩⟩ : File)).map fileC))) _ _ ?_; refine GC.now (ret_m (by simp only [go_sem, Try.f29, hlt]; exact _root_.id rfl) (by simp only [go_sem]) (by simp) (by first | exact hwf | exact wf_set hwf (by simp only [go_sem, hlt]) | exact wf_set2 hwf (by simp only [go_sem, hlt]) (by simp only [go_sem, hlt]) | (simp only [go_sem]; done)) (by first | exact ⟨_, _root_.id rfl⟩ | exact ⟨[], (List.append_nil _).symm⟩) ?_) <;> simp only [go_sem, hlt]
      exact hk _
theorem c_IndexInts (xs : List Int) (v : Int) (hn : xs.length ≤ 1000000000) (K : AV → AH → Prop) (hk : K (.one (.c (.int .i64 (findG (fun x => v == x) xs)))) []) : ACalls Try.prog 61 [(.one (.im (xs.map intC))), (.one (.c (.int .i64 (v))))] [] K := by
  refine acall_c Try.f61.results.toList mixed Try.func61 rfl rfl (by kernel_rfl) ?_
  intro Q hQ hQO
  simp only [go_sem]
  refine for_at (xs.length) [0, 1, 7] (fun i f h => f 8 = (.one (.c (.int .i64 (i)))) ∧ h = [] ∧ noneTo (fun x => v == x) xs i) (GC.now ?_) ?_
  · simp only [go_sem, nc_0, true_and]
    exact noneTo_0 _ _
  · rintro i f h J hi hA ⟨e8, rfl, hP⟩ hJ
    simp only [go_sem] at hA
    simp only [go_sem, hA, e8]
    refine c_split (fun hb => ?_) (fun hb => ?_)
    rotate_left
    · simp only [go_sem, hb, hA, e8]
      obtain rfl := ge_len hb hi
      (try simp only [go_sem, hA, e8]); repeat' (first | (with_reducible refine c_split (fun hb => ?_) (fun hb => ?_) <;> try simp only [go_sem, hb, hA, e8]) | (with_reducible refine w_split (fun hb => ?_) (fun hb => ?_) <;> try simp only [go_sem, hb, hA, e8]) | (with_reducible refine hQ _ _ ?_ <;> simp only [Try.f61, go_sem, hA, e8]))
      rw [findG_no hP] at hk
      exact hk
    have hi := lt_len hb
    have hw := wrap_nat i (by omega)
    have hil : (i : Int) < ((xs.length : Nat) : Int) := Int.ofNat_lt.2 hi
    have hg0 : (xs)[i]? = some ((xs)[i]) := List.getElem?_eq_getElem (by omega)
    simp only [go_sem, hb, hA, e8, hg0]
    try simp only [go_sem, hA, e8, hil, hg0]
    (try simp only [go_sem, hA, e8, hil, hg0]); repeat' (first | (with_reducible refine c_split (fun hb => ?_) (fun hb => ?_) <;> try simp only [go_sem, hb, hA, e8, hil, hg0]) | (with_reducible refine w_split (fun hb => ?_) (fun hb => ?_) <;> try simp only [go_sem, hb, hA, e8, hil, hg0]) | (with_reducible refine hQ _ _ ?_ <;> simp only [Try.f61, go_sem, hA, e8, hil, hg0]))
    · rw [findG_of hP hi hb] at hk
      exact hk
    · refine GC.now (hJ _ _ hi (by simp only [go_sem, hA, e8]) ⟨?_, ?_, ?_⟩) <;> try simp only [go_sem, hA, e8, hw]
      exact noneTo_s hP hi hb
theorem findG_mem (xs : List Int) (v : Int) : decide (0 ≤ findG (fun x => v == x) xs) = decide (v ∈ xs) := by
  unfold findG
  cases hf : xs.findIdx? (fun x => v == x) with
  | none =>
    rw [List.findIdx?_eq_none_iff] at hf
    have : ¬ v ∈ xs := fun hm => by have := hf v hm; simp at this
    simp [this]
  | some i =>
    rw [List.findIdx?_eq_some_iff_getElem] at hf
    obtain ⟨hi, h1, _⟩ := hf
    have : v ∈ xs := by rw [eq_of_beq h1]; exact List.getElem_mem hi
    simp [this]
theorem c_ContainsInts (xs : List Int) (v : Int) (hn : xs.length ≤ 1000000000) (K : AV → AH → Prop) (hk : K (.one (.c (.bool (decide (v ∈ xs))))) []) : ACalls Try.prog 32 [(.one (.im (xs.map intC))), (.one (.c (.int .i64 (v))))] [] K := by
  refine acall_c Try.f32.results.toList mixed Try.func32 rfl rfl (by kernel_rfl) ?_
  intro Q hQ hQO
  simp only [go_sem]
  (try simp only [go_sem]); repeat' (first | (with_reducible refine c_split (fun hb => ?_) (fun hb => ?_) <;> try simp only [go_sem, hb]) | (with_reducible refine w_split (fun hb => ?_) (fun hb => ?_) <;> try simp only [go_sem, hb]) | (refine call_c (c_IndexInts _ _ hn _ ?_) <;> try simp only [go_sem]) | (with_reducible refine hQ _ _ ?_ <;> simp only [Try.f32, go_sem]))
  rw [findG_mem]
  exact hk
/-- A segment that isn't kept. -/
def goneP (keep : List Int) (f : File) : Bool := decide (0 ≤ f.name ∧ f.name ≤ 19) && !decide (f.name ∈ keep)
theorem c_SegsClear1 (f : File) (keep : List Int) (hn : keep.length ≤ 1000000000) (h0 : AH) (c : Nat) (hc : h0[c]? = some (.own 0 27 1 (some 1) [[.im (keep.map intC)]])) (K : AV → AH → Prop) (hk : K (.one (.c (.bool (goneP keep f)))) h0) : ACalls Try.prog 30 [.agg (fileC f), .one (.pt c 0 0 0)] h0 K := by
  refine acall_m Try.f30.results.toList mixed Try.func30 rfl rfl (by kernel_rfl) ?_
  intro hwf Q hQ
  simp only [go_sem, fun a => h_old a hc]
  (try simp only [go_sem, fun a => h_old a hc]); repeat' (first | (with_reducible refine c_split (fun hb => ?_) (fun hb => ?_) <;> try simp only [go_sem, hb, fun a => h_old a hc]) | (with_reducible refine w_split (fun hb => ?_) (fun hb => ?_) <;> try simp only [go_sem, hb, fun a => h_old a hc]) | (refine call_c (c_isSeg _ _ ?_) <;> try simp only [go_sem, fun a => h_old a hc]) | (refine call_c (c_ContainsInts _ _ hn _ ?_) <;> try simp only [go_sem, fun a => h_old a hc]) | (fail))
  · refine hQ (h0) _ _ ?_; refine GC.now (ret_m (by simp only [go_sem, Try.f30]; exact _root_.id rfl) (by simp only [go_sem]) (by simp) (by first | exact hwf | exact wf_set hwf (by simp only [go_sem]) | exact wf_set2 hwf (by simp only [go_sem]) (by simp only [go_sem]) | (simp only [go_sem]; done)) (by first | exact ⟨_, _root_.id rfl⟩ | exact ⟨[], (List.append_nil _).symm⟩) ?_) <;> simp only [go_sem]
    refine kB hk ?_
    rw [goneP, hb]; rfl
  · refine hQ (h0) _ _ ?_; refine GC.now (ret_m (by simp only [go_sem, Try.f30]; exact _root_.id rfl) (by simp only [go_sem]) (by simp) (by first | exact hwf | exact wf_set hwf (by simp only [go_sem]) | exact wf_set2 hwf (by simp only [go_sem]) (by simp only [go_sem]) | (simp only [go_sem]; done)) (by first | exact ⟨_, _root_.id rfl⟩ | exact ⟨[], (List.append_nil _).symm⟩) ?_) <;> simp only [go_sem]
    refine kB hk ?_
    rw [goneP, hb]; rfl
def clearFiles (keep : List Int) (fs : List File) : List File := fs.filter fun f => !goneP keep f
def clearDisk (d : Disk) (keep : List Int) : Disk := if diskOk d = true ∧ keep.length ≤ 20 then ⟨d.room, clearFiles keep d.files⟩ else ⟨0, []⟩
theorem c_impl_SegsClear (d : Disk) (keep : List Int) (hn : d.files.length ≤ 1000000000) (hk0 : keep.length ≤ 1000000000) (K : AV → AH → Prop)
    (hk : K (.agg [.c (.int .i64 ((clearDisk d keep).room)), .sl 0 0 0 (clearDisk d keep).files.length]) [.own 0 55 3 none ((clearDisk d keep).files.map fileC)]) : ACalls Try.prog 7 [.agg (diskC d), (.one (.im (keep.map intC)))] [] K := by
  refine acall_c Try.f7.results.toList mixed Try.func7 rfl rfl (by kernel_rfl) ?_
  intro Q hQ hQO
  simp only [go_sem]
  (try simp only [go_sem]); repeat' (first | (with_reducible refine c_split (fun hb => ?_) (fun hb => ?_) <;> try simp only [go_sem, hb]) | (with_reducible refine w_split (fun hb => ?_) (fun hb => ?_) <;> try simp only [go_sem, hb]) | (refine call_c (c_impl_DiskOk d hn _ ?_) <;> try simp only [go_sem]) | (refine call_c (c_cloneDisk d hn _ (fun cap => ?_)) <;> try simp only [go_sem]) | (fail))
  · refine hQO [3] _ _ (GC.step (Ghost.nlc (l := 2) rfl 0 1 rfl rfl 55 3) (GC.now ?_)) <;> simp only [Try.f7, go_sem, List.nodup_cons, List.nodup_nil, List.mem_cons, List.not_mem_nil, or_false, not_false_eq_true, List.idxOf?_cons, List.idxOf?_nil, Option.map_none]
    rw [clearDisk, if_neg (fun q => by simp [q.1] at hb)] at hk
    exact hk
  · refine hQO [3] _ _ (GC.step (Ghost.nlc (l := 2) rfl 0 1 rfl rfl 55 3) (GC.now ?_)) <;> simp only [Try.f7, go_sem, List.nodup_cons, List.nodup_nil, List.mem_cons, List.not_mem_nil, or_false, not_false_eq_true, List.idxOf?_cons, List.idxOf?_nil, Option.map_none]
    rw [clearDisk, if_neg (fun q => by have := of_decide_eq_true hb; omega)] at hk
    exact hk
  · rename_i hb1
    rw [clearDisk, if_pos (by constructor <;> simp at hb hb1 <;> first | assumption | omega)] at hk
    refine call_h (c_DeleteFunc d.files 3 0 cap _ _ (goneP keep) _ rfl hn ?_ (by decide) rfl _ (fun rest => ?_))
    · intro h1 x K' hcap hk'
      refine .inr (.inl ⟨rfl, c_SegsClear1 x keep hk0 h1 1 ?_ _ hk'⟩)
      exact (hcap 1 (by simp)).trans rfl
    · simp only [go_sem]
      (try simp only [go_sem]); repeat' (first | (with_reducible refine c_split (fun hb => ?_) (fun hb => ?_) <;> try simp only [go_sem, hb]) | (with_reducible refine w_split (fun hb => ?_) (fun hb => ?_) <;> try simp only [go_sem, hb]) | (fail))
      have htk : (List.map fileC (d.files.filter (fun f => !goneP keep f) ++ rest)).take (d.files.filter fun f => !goneP keep f).length = (d.files.filter fun f => !goneP keep f).map fileC := by rw [← List.map_take, List.take_left]
      refine hQO [3] _ _ (GC.step (Ghost.cut (l := 3) rfl (d.files.filter fun f => !goneP keep f).length) (GC.now ?_)) <;> simp only [Try.f7, go_sem, List.nodup_cons, List.nodup_nil, List.mem_cons, List.not_mem_nil, or_false, not_false_eq_true, List.idxOf?_cons, List.idxOf?_nil, Option.map_none, htk]
      exact hk
theorem take_filter {α : Type} (p : α → Bool) (xs : List α) (i : Nat) (hi : i < xs.length) : (xs.take (i + 1)).filter p = (xs.take i).filter p ++ (if p xs[i] = true then [xs[i]] else []) := by
  rw [List.take_succ_eq_append_getElem hi, List.filter_append]
  cases h : p xs[i] <;> simp [h]
end Go.Proofs.Ytaahlnjldenhpaa
