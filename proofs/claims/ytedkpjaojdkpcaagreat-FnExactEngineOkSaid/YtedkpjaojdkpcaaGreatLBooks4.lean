/- Books4: lots of books, as the program sums them. Conditions: none. -/
import Derived.Test.YtedkpjaojdkpcaaGreatLG
import Derived.Test.YtedkpjaojdkpcaaGreatLT
import Derived.Test.YtedkpjaojdkpcaaGreatLBooks3
namespace Go.Proofs.YtedkpjaojdkpcaaGreat
open Go.BL Go.RowKit
set_option linter.unusedVariables false
set_option linter.unusedSimpArgs false
set_option maxRecDepth 100000
attribute [local go_sem] accountC balC lotC tradeC
theorem c_CloneLot (fs : List Lot) (hn : fs.length ≤ 1000000000) (K : AV → AH → Prop) (hk : ∀ cap, K (.one (.sl 0 0 0 fs.length)) [.own 0 101 5 cap (fs.map lotC)]) : ACalls Tryz.prog 136 [(.one (.im (fs.map lotC)))] [] K := by
  refine acall_c Tryz.f136.results.toList mixed Tryz.func136 rfl rfl (by kernel_rfl) ?_
  intro Q hQ hQO
  simp only [go_sem]
  by_cases hf : fs = []
  · subst hf
    simp only [go_sem, nq_im0, nqG]
    intro b
    (try simp only [go_sem]); repeat' (first | (with_reducible refine c_split (fun hb => ?_) (fun hb => ?_) <;> try simp only [go_sem, hb]) | (with_reducible refine w_split (fun hb => ?_) (fun hb => ?_) <;> try simp only [go_sem, hb]) | (fail))
    · refine hQO [0] _ _ (GC.step (Ghost.nlr 2 (by simp only [go_sem]) 101 5) (GC.now ?_)) <;> simp only [Tryz.f136, go_sem, List.nodup_cons, List.nodup_nil, List.mem_cons, List.not_mem_nil, or_false, not_false_eq_true, List.idxOf?_cons, List.idxOf?_nil, Option.map_none]
      exact hk _
    · refine ap_end rfl rfl (by decide) ?_
      (try simp only [go_sem]); repeat' (first | (with_reducible refine c_split (fun hb => ?_) (fun hb => ?_) <;> try simp only [go_sem, hb]) | (with_reducible refine w_split (fun hb => ?_) (fun hb => ?_) <;> try simp only [go_sem, hb]) | (fail))
      refine hQO [0] _ _ (GC.now ?_) <;> simp only [Tryz.f136, go_sem, List.nodup_cons, List.nodup_nil, List.mem_cons, List.not_mem_nil, or_false, not_false_eq_true, List.idxOf?_cons, List.idxOf?_nil, Option.map_none]
      exact hk _
  · have hne : fs.map lotC ≠ [] := by simpa using hf
    (try simp only [go_sem, nq_im _ hne, nqG]); repeat' (first | (with_reducible refine c_split (fun hb => ?_) (fun hb => ?_) <;> try simp only [go_sem, hb, nq_im _ hne, nqG]) | (with_reducible refine w_split (fun hb => ?_) (fun hb => ?_) <;> try simp only [go_sem, hb, nq_im _ hne, nqG]) | (fail))
    refine ap_end rfl rfl (by simp; omega) ?_
    (try simp only [go_sem, Nat.zero_add]); repeat' (first | (with_reducible refine c_split (fun hb => ?_) (fun hb => ?_) <;> try simp only [go_sem, hb, Nat.zero_add]) | (with_reducible refine w_split (fun hb => ?_) (fun hb => ?_) <;> try simp only [go_sem, hb, Nat.zero_add]) | (fail))
    refine hQO [0] _ _ (GC.now ?_) <;> simp only [Tryz.f136, go_sem, List.nodup_cons, List.nodup_nil, List.mem_cons, List.not_mem_nil, or_false, not_false_eq_true, List.idxOf?_cons, List.idxOf?_nil, Option.map_none]
    exact hk _
theorem c_IndexFuncLot (fs : List Lot) (g : Nat) (caps : List Nat) (p : Lot → Bool) (h0 : AH) (K : AV → AH → Prop) (hn : fs.length ≤ 1000000000)
    (hp : ∀ i (hi : i < fs.length) (K' : AV → AH → Prop), K' (.one (.c (.bool (p fs[i])))) h0 → callA Tryz.prog g ([.agg (lotC fs[i])] ++ caps.map fun l => .one (.pt l 0 0 0)) h0 K')
    (hk : K (.one (.c (.int .i64 (findG p fs)))) h0) : ACalls Tryz.prog 134 [(.one (.im (fs.map lotC))), .one (.clo g caps)] h0 K := by
  refine acall_m Tryz.f134.results.toList mixed Tryz.func134 rfl rfl (by kernel_rfl) ?_
  intro hwf Q hQ
  simp only [go_sem, ca_clos]
  refine for_at (fs.length) [0, 1, 7] (fun i f h => f 8 = (.one (.c (.int .i64 (i)))) ∧ f 7 = (.one (.c (.int .i64 (fs.length)))) ∧ h = h0 ∧ noneTo p fs i) (GC.now ?_) ?_
  · simp only [go_sem, nc_0, true_and, ca_clos]
    exact noneTo_0 p fs
  · rintro i f h J hi hA ⟨e8, e7, rfl, hP⟩ hJ
    simp only [go_sem, ca_clos] at hA
    simp only [go_sem, hA, e8, e7, ca_clos]
    refine c_split (fun hb => ?_) (fun hb => ?_)
    rotate_left
    · simp only [go_sem, hb, hA, e8, e7, ca_clos]
      obtain rfl := ge_len hb hi
      refine hQ (h) _ _ ?_; refine GC.now (ret_m (by simp only [go_sem, Tryz.f134, hA, e8, e7, ca_clos]; exact _root_.id rfl) (by simp only [go_sem]) (by simp) (by first | exact hwf | exact wf_set hwf (by simp only [go_sem, hA, e8, e7, ca_clos]) | exact wf_set2 hwf (by simp only [go_sem, hA, e8, e7, ca_clos]) (by simp only [go_sem, hA, e8, e7, ca_clos]) | (simp only [go_sem]; done)) (by first | exact ⟨_, _root_.id rfl⟩ | exact ⟨[], (List.append_nil _).symm⟩) ?_) <;> simp only [go_sem, hA, e8, e7, ca_clos]
      rw [findG_no hP] at hk
      exact hk
    have hi := lt_len hb
    have hw := wrap_nat i (by omega)
    have hil : (i : Int) < ((fs.length : Nat) : Int) := Int.ofNat_lt.2 hi
    have hg0 : (fs)[i]? = some ((fs)[i]) := List.getElem?_eq_getElem (by omega)
    simp only [go_sem, hb, hA, e8, e7, ca_clos, hg0]
    try simp only [go_sem, hA, e8, e7, ca_clos, hil, hg0]
    refine hp i hi _ ?_
    simp only [go_sem, hA, e8, e7, ca_clos, hil, hg0]
    (try simp only [go_sem, hA, e8, e7, ca_clos, hil, hg0]); repeat' (first | (with_reducible refine c_split (fun hb => ?_) (fun hb => ?_) <;> try simp only [go_sem, hb, hA, e8, e7, ca_clos, hil, hg0]) | (with_reducible refine w_split (fun hb => ?_) (fun hb => ?_) <;> try simp only [go_sem, hb, hA, e8, e7, ca_clos, hil, hg0]) | (fail))
    · refine hQ (h) _ _ ?_; refine GC.now (ret_m (by simp only [go_sem, Tryz.f134, hA, e8, e7, ca_clos, hil, hg0]; exact _root_.id rfl) (by simp only [go_sem]) (by simp) (by first | exact hwf | exact wf_set hwf (by simp only [go_sem, hA, e8, e7, ca_clos, hil, hg0]) | exact wf_set2 hwf (by simp only [go_sem, hA, e8, e7, ca_clos, hil, hg0]) (by simp only [go_sem, hA, e8, e7, ca_clos, hil, hg0]) | (simp only [go_sem]; done)) (by first | exact ⟨_, _root_.id rfl⟩ | exact ⟨[], (List.append_nil _).symm⟩) ?_) <;> simp only [go_sem, hA, e8, e7, ca_clos, hil, hg0]
      rw [findG_of hP hi hb] at hk
      exact hk
    · refine GC.now (hJ _ _ hi (by simp only [go_sem, hA, e8, e7, ca_clos]) ⟨?_, ?_, ?_, ?_⟩) <;> try simp only [go_sem, hA, e8, e7, ca_clos, hw]
      exact noneTo_s hP hi hb
/-- A closure that tells 'p' of a file, on any heap that keeps what it holds. -/
def CloBLot (g : Nat) (caps : List Nat) (h0 : AH) (p : Lot → Bool) : Prop := ∀ (h1 : AH) (x : Lot) (K' : AV → AH → Prop), (∀ c ∈ caps, h1[c]? = h0[c]?) → K' (.one (.c (.bool (p x)))) h1 → callA Tryz.prog g ([.agg (lotC x)] ++ caps.map fun l => .one (.pt l 0 0 0)) h1 K'
theorem c_IndexFuncLot_sl (xs : List Lot) (l g : Nat) (cap : Option Nat) (gf : Nat) (caps : List Nat) (p : Lot → Bool) (h0 : AH) (hl : h0[l]? = some (.own g 101 5 cap (xs.map lotC))) (hn : xs.length ≤ 1000000000) (hp : CloBLot gf caps h0 p)
    (K : AV → AH → Prop) (hk : K (.one (.c (.int .i64 (findG p xs)))) h0) : ACalls Tryz.prog 134 [.one (.sl l g 0 xs.length), .one (.clo gf caps)] h0 K := by
  refine acall_m Tryz.f134.results.toList mixed Tryz.func134 rfl rfl (by kernel_rfl) ?_
  intro hwf Q hQ
  simp only [go_sem, hl, ca_clos]
  refine for_at (xs.length) [0, 1, 7] (fun i f h => f 8 = (.one (.c (.int .i64 (i)))) ∧ f 7 = (.one (.c (.int .i64 (xs.length)))) ∧ h = h0 ∧ noneTo p xs i) (GC.now ?_) ?_
  · simp only [go_sem, nc_0, true_and, hl, ca_clos]
    exact noneTo_0 p xs
  · rintro i f h J hi hA ⟨e8, e7, rfl, hP⟩ hJ
    simp only [go_sem, hl, ca_clos] at hA
    simp only [go_sem, hA, e8, e7, hl, ca_clos]
    refine c_split (fun hb => ?_) (fun hb => ?_)
    rotate_left
    · simp only [go_sem, hb, hA, e8, e7, hl, ca_clos]
      obtain rfl := ge_len hb hi
      refine hQ (h) _ _ ?_; refine GC.now (ret_m (by simp only [go_sem, Tryz.f134, hA, e8, e7, hl, ca_clos]; exact _root_.id rfl) (by simp only [go_sem]) (by simp) (by first | exact hwf | exact wf_set hwf (by simp only [go_sem, hA, e8, e7, hl, ca_clos]) | exact wf_set2 hwf (by simp only [go_sem, hA, e8, e7, hl, ca_clos]) (by simp only [go_sem, hA, e8, e7, hl, ca_clos]) | (simp only [go_sem]; done)) (by first | exact ⟨_, _root_.id rfl⟩ | exact ⟨[], (List.append_nil _).symm⟩) ?_) <;> simp only [go_sem, hA, e8, e7, hl, ca_clos]
      rw [findG_no hP] at hk
      exact hk
    have hi := lt_len hb
    have hw := wrap_nat i (by omega)
    have hil : (i : Int) < ((xs.length : Nat) : Int) := Int.ofNat_lt.2 hi
    have hg0 : (xs)[i]? = some ((xs)[i]) := List.getElem?_eq_getElem (by omega)
    simp only [go_sem, hb, hA, e8, e7, hl, ca_clos, hg0]
    try simp only [go_sem, hA, e8, e7, hl, ca_clos, hil, hg0]
    refine hp _ _ _ (fun _ _ => rfl) ?_
    simp only [go_sem, hA, e8, e7, hl, ca_clos, hil, hg0]
    (try simp only [go_sem, hA, e8, e7, hl, ca_clos, hil, hg0]); repeat' (first | (with_reducible refine c_split (fun hb => ?_) (fun hb => ?_) <;> try simp only [go_sem, hb, hA, e8, e7, hl, ca_clos, hil, hg0]) | (with_reducible refine w_split (fun hb => ?_) (fun hb => ?_) <;> try simp only [go_sem, hb, hA, e8, e7, hl, ca_clos, hil, hg0]) | (fail))
    · refine hQ (h) _ _ ?_; refine GC.now (ret_m (by simp only [go_sem, Tryz.f134, hA, e8, e7, hl, ca_clos, hil, hg0]; exact _root_.id rfl) (by simp only [go_sem]) (by simp) (by first | exact hwf | exact wf_set hwf (by simp only [go_sem, hA, e8, e7, hl, ca_clos, hil, hg0]) | exact wf_set2 hwf (by simp only [go_sem, hA, e8, e7, hl, ca_clos, hil, hg0]) (by simp only [go_sem, hA, e8, e7, hl, ca_clos, hil, hg0]) | (simp only [go_sem]; done)) (by first | exact ⟨_, _root_.id rfl⟩ | exact ⟨[], (List.append_nil _).symm⟩) ?_) <;> simp only [go_sem, hA, e8, e7, hl, ca_clos, hil, hg0]
      rw [findG_of hP hi hb] at hk
      exact hk
    · refine GC.now (hJ _ _ hi (by simp only [go_sem, hA, e8, e7, hl, ca_clos]) ⟨?_, ?_, ?_, ?_⟩) <;> try simp only [go_sem, hA, e8, e7, hl, ca_clos, hw]
      exact noneTo_s hP hi hb
theorem c_DeleteFuncLot (xs : List Lot) (l g : Nat) (cap : Option Nat) (gf : Nat) (caps : List Nat) (p : Lot → Bool) (h0 : AH) (hl : h0[l]? = some (.own g 101 5 cap (xs.map lotC))) (hn : xs.length ≤ 1000000000) (hp : CloBLot gf caps h0 p) (hcl : l ∉ caps) (hct : caps.all (fun c => decide (c < h0.length)) = true)
    (K : AV → AH → Prop) (hk : ∀ rest : List Lot, K (.one (.sl l g 0 (xs.filter fun x => !p x).length)) (h0.set l (.own g 101 5 cap ((xs.filter (fun x => !p x) ++ rest).map lotC)))) : ACalls Tryz.prog 135 [.one (.sl l g 0 xs.length), .one (.clo gf caps)] h0 K := by
  have hlt := (List.getElem?_eq_some_iff.1 hl).1
  have hall : ∀ o, (h0.set l o)[l]? = some o := set_at hl
  refine acall_m Tryz.f135.results.toList mixed Tryz.func135 rfl rfl (by kernel_rfl) ?_
  intro hwf Q hQ
  simp only [go_sem, hl]
  refine call_h (c_IndexFuncLot_sl xs l g cap gf caps p h0 hl hn hp _ ?_)
  simp only [go_sem]
  rcases findG_cases p xs with ⟨hf, hx⟩ | ⟨i0, hi0, hf, hx, hx2⟩
  · (try simp only [go_sem, hf, BEq.rfl]); repeat' (first | (with_reducible refine c_split (fun hb => ?_) (fun hb => ?_) <;> try simp only [go_sem, hb, hf, BEq.rfl]) | (with_reducible refine w_split (fun hb => ?_) (fun hb => ?_) <;> try simp only [go_sem, hb, hf, BEq.rfl]) | (fail))
    refine hQ (h0) _ _ ?_; refine GC.now (ret_m (by simp only [go_sem, Tryz.f135, hlt]; exact _root_.id rfl) (by simp only [go_sem]) (by simp) (by first | exact hwf | exact wf_set hwf (by simp only [go_sem, hlt]) | exact wf_set2 hwf (by simp only [go_sem, hlt]) (by simp only [go_sem, hlt]) | (simp only [go_sem]; done)) (by first | exact ⟨_, _root_.id rfl⟩ | exact ⟨[], (List.append_nil _).symm⟩) ?_) <;> simp only [go_sem, hlt]
    have := hk []
    rw [hx, List.append_nil, set_same hl] at this
    exact this
  have h1 : ((i0 : Int) == -1) = false := by simp
  have hw := wrap_nat i0 (by omega)
  have hmin : (xs.take i0).length = i0 := by simp; omega
  have hsp : xs.take i0 ++ xs[i0] :: xs.drop (i0 + 1) = xs := by rw [← List.drop_eq_getElem_cons hi0, List.take_append_drop]
  (try simp only [go_sem, hf, h1, hw]); repeat' (first | (with_reducible refine c_split (fun hb => ?_) (fun hb => ?_) <;> try simp only [go_sem, hb, hf, h1, hw]) | (with_reducible refine w_split (fun hb => ?_) (fun hb => ?_) <;> try simp only [go_sem, hb, hf, h1, hw]) | (fail))
  refine while_at (α := Nat × Lot × List Lot) (fun ⟨j, m, mid⟩ => xs.length - j) [0, 1] (fun ⟨j, m, mid⟩ f h => f 5 = (.one (.c (.int .i64 ((((xs.take j).filter fun x => !p x).length : Nat))))) ∧ f 6 = (.one (.c (.int .i64 (j)))) ∧ h = h0.set l (.own g 101 5 cap (((xs.take j).filter (fun x => !p x) ++ m :: (mid ++ xs.drop j)).map lotC)) ∧ j ≤ xs.length ∧ ((xs.take j).filter fun x => !p x).length + 1 + mid.length = j) (i0 + 1, xs[i0], []) (GC.now ?_) ?_
  · simp only [go_sem, nc_0, true_and, hall, hlt, hct, tr_clo, ca_clos]
    rw [hx2]; simp only [hmin, hsp, List.nil_append, set_same hl, true_and]; exact ⟨by omega, by simp⟩
  · rintro ⟨j, m, mid⟩ f h J hA ⟨e5, e6, rfl, hP⟩ hJ
    simp only [go_sem, hall, hlt, hct, tr_clo, ca_clos] at hA
    try dsimp only at hJ
    simp only [go_sem, hA, e5, e6, hall, hlt, hct, tr_clo, ca_clos]
    obtain ⟨hj, hjm⟩ := hP
    generalize hAf : (xs.take j).filter (fun x => !p x) = A at *
    refine c_split (fun hb => ?_) (fun hb => ?_)
    · have hi := lt_len hb
      obtain ⟨ar1, ar2, hAi, ar4, ar5, ar6, ar7⟩ := del_arith hjm hi hn
      have hw := wrap_nat j ar2
      have hil : (j : Int) < (xs.length : Int) := Int.ofNat_lt.2 hi
      have hgj : (A ++ m :: (mid ++ xs.drop j))[j]? = some xs[j] := by
        rw [show A ++ m :: (mid ++ xs.drop j) = (A ++ m :: mid) ++ xs.drop j by simp, List.getElem?_append_right (by simp; omega), List.drop_eq_getElem_cons hi]
        rw [show j - (A ++ m :: mid).length = 0 by simp; omega]; rfl
      have hcap : ∀ o a, ∀ c ∈ caps, (h0.set l o ++ a)[c]? = h0[c]? := fun o a c hc => by
        have h1 : c < h0.length := by simpa using List.all_eq_true.1 hct c hc
        rw [List.getElem?_append_left (by simpa using h1), List.getElem?_set_ne (by rintro rfl; exact hcl hc)]
      have htk : (xs.take (j + 1)).filter (fun x => !p x) = A ++ (if p xs[j] = true then [] else [xs[j]]) := by
        rw [List.take_succ_eq_append_getElem hi, List.filter_append, hAf]
        cases hpj : p xs[j] <;> simp [hpj]
      have hmid : mid ++ xs.drop j = (mid ++ [xs[j]]) ++ xs.drop (j + 1) := by rw [List.drop_eq_getElem_cons hi]; simp
      have hnew : ∀ (o : AO) (a : AO), (h0.set l o ++ [a])[h0.length]? = some a := fun o a => by rw [List.getElem?_append_right (by simp)]; simp
      have hset : ∀ (o : AO) (a b : AO), (h0.set l o ++ [a]).set h0.length b = h0.set l o ++ [b] := fun o a b => by rw [List.set_append_right _ _ (by simp)]; simp
      have hold : ∀ (o : AO) (a : List AO), (h0.set l o ++ a)[l]? = some o := fun o a => h_old a (hall o)
      have hset2 : ∀ (o b : AO) (a : List AO), (h0.set l o ++ a).set l b = h0.set l b ++ a := fun o b a => by rw [List.set_append_left _ _ (by simpa using hlt)]; simp
      have hgA : (A ++ m :: (mid ++ xs.drop j))[A.length]? = some m := by rw [List.getElem?_append_right (Nat.le_refl _), Nat.sub_self]; rfl
      simp only [go_sem, hb, hA, e5, e6, hall, hlt, hct, tr_clo, ca_clos, hgj]
      simp only [go_sem, hA, e5, e6, hall, hlt, hct, tr_clo, ca_clos, hil, hgj, hnew, hset]
      refine hp _ _ _ (hcap _ _) ?_
      (try simp only [go_sem, hA, e5, e6, hall, hlt, hct, tr_clo, ca_clos, hgj, hAi, hgA, set_mid, hnew, hset, hold, hset2]); repeat' (first | (with_reducible refine c_split (fun hb => ?_) (fun hb => ?_) <;> try simp only [go_sem, hb, hA, e5, e6, hall, hlt, hct, tr_clo, ca_clos, hgj, hAi, hgA, set_mid, hnew, hset, hold, hset2]) | (with_reducible refine w_split (fun hb => ?_) (fun hb => ?_) <;> try simp only [go_sem, hb, hA, e5, e6, hall, hlt, hct, tr_clo, ca_clos, hgj, hAi, hgA, set_mid, hnew, hset, hold, hset2]) | (fail))
      · have hpj : p xs[j] = false := by simpa using hb
        have htk2 : (xs.take (j + 1)).filter (fun x => !p x) = A ++ [xs[j]] := by rw [htk, hpj]; rfl
        obtain ⟨m', mid', e⟩ : ∃ m' mid', mid ++ [xs[j]] = m' :: mid' := by cases mid with
          | nil => exact ⟨_, _, rfl⟩
          | cons a r => exact ⟨_, _, rfl⟩
        have e2 : A ++ xs[j] :: (mid ++ xs.drop j) = (A ++ [xs[j]]) ++ m' :: (mid' ++ xs.drop (j + 1)) := by rw [hmid, e]; simp
        have hl2 : mid'.length = mid.length := by have := congrArg List.length e; simp only [List.length_append, List.length_cons, List.length_nil, Nat.zero_add] at this; exact (Nat.succ.inj this).symm
        have hwA := wrap_nat A.length ar1
        have hA1 : (A ++ [xs[j]]).length = A.length + 1 := by simp
        refine gc_trim h0.length (Nat.le_refl _) (by simp) (by rw [take_app _ _ (by simp)]; first | exact hwf | exact wf_set hwf (by simp only [go_sem, htk2, hwA, hA1, e2])) (hJ (j + 1, m', mid') _ _ (by exact ar4) (by simp only [go_sem, hA, e5, e6, hall, hlt, hct, tr_clo, ca_clos, htk2, hwA, hA1, e2]) ⟨?_, ?_, ?_, ?_⟩) <;> try simp only [go_sem, take_app, hA, e5, e6, hall, hlt, hct, tr_clo, ca_clos, hw, htk2, hwA, hA1, e2]
        exact ⟨ar5, by rw [hl2]; exact ar6⟩
      · have hpj : p xs[j] = true := by simpa using hb
        have htk2 : (xs.take (j + 1)).filter (fun x => !p x) = A := by rw [htk, hpj]; simp
        have e2 : A ++ m :: (mid ++ xs.drop j) = A ++ m :: (mid ++ [xs[j]] ++ xs.drop (j + 1)) := by rw [hmid]
        refine gc_trim h0.length (Nat.le_refl _) (by simp) (by rw [take_app _ _ (by simp)]; first | exact hwf | exact wf_set hwf (by simp only [go_sem, htk2, e2])) (hJ (j + 1, m, mid ++ [xs[j]]) _ _ (by exact ar4) (by simp only [go_sem, hA, e5, e6, hall, hlt, hct, tr_clo, ca_clos, htk2, e2]) ⟨?_, ?_, ?_, ?_⟩) <;> try simp only [go_sem, take_app, hA, e5, e6, hall, hlt, hct, tr_clo, ca_clos, hw, htk2, e2]
        exact ⟨ar5, ar7⟩
    · simp only [go_sem, hb, hA, e5, e6, hall, hlt, hct, tr_clo, ca_clos]
      obtain rfl := ge_len hb hj
      rw [List.take_length] at hAf
      subst hAf
      have hz : ((xs.filter fun x => !p x) ++ m :: (mid ++ xs.drop xs.length)).length = xs.length := by rw [List.drop_length]; simp; omega
      have hA0 : (xs.filter fun x => !p x).length < xs.length := by omega
      have hA1 : (xs.filter fun x => !p x).length ≤ xs.length := Nat.le_of_lt hA0
      have hd0 : xs.drop xs.length = [] := List.drop_length
      rw [hd0] at hz ⊢
      rw [List.append_nil] at hz ⊢
      have hle : (List.filter (fun x => !p x) xs ++ m :: mid).length = xs.length := hz
      simp only [go_sem, hall, hA0, hA1, hd0, hz]
      refine cr_sl (by decide) (hall _) (by simp only [List.length_map, hle]; omega) ?_
      rw [cset_end _ _ _ (by simp only [List.length_map, hle, List.length_replicate]; omega)]
      have htk3 : (List.map lotC (xs.filter (fun x => !p x) ++ m :: mid)).take (xs.filter fun x => !p x).length = (xs.filter fun x => !p x).map lotC := by rw [← List.map_take, List.take_left]
      have hrep := lotC_rep (xs.length - (xs.filter fun x => !p x).length) 0 0 0 0 0
      rw [htk3, hrep, ← List.map_append]
      have hl3 : (xs.filter (fun x => !p x) ++ List.replicate (xs.length - (xs.filter fun x => !p x).length) (⟨0, 0, 0, 0, 0⟩ : Lot)).length = xs.length := by simp; omega
      (try simp only [go_sem, hA, e5, e6, hall, hlt, hct, tr_clo, ca_clos, hA1, hl3, Nat.zero_add]); repeat' (first | (with_reducible refine c_split (fun hb => ?_) (fun hb => ?_) <;> try simp only [go_sem, hb, hA, e5, e6, hall, hlt, hct, tr_clo, ca_clos, hA1, hl3, Nat.zero_add]) | (with_reducible refine w_split (fun hb => ?_) (fun hb => ?_) <;> try simp only [go_sem, hb, hA, e5, e6, hall, hlt, hct, tr_clo, ca_clos, hA1, hl3, Nat.zero_add]) | (fail))
      refine hQ (h0.set l (.own g 101 5 cap ((xs.filter (fun x => !p x) ++ List.replicate (xs.length - (xs.filter fun x => !p x).length) (⟨0, 0, 0, 0, 0⟩ : Lot)).map lotC))) _ _ ?_; refine GC.now (ret_m (by simp only [go_sem, Tryz.f135, hlt]; exact _root_.id rfl) (by simp only [go_sem]) (by simp) (by first | exact hwf | exact wf_set hwf (by simp only [go_sem, hlt]) | exact wf_set2 hwf (by simp only [go_sem, hlt]) (by simp only [go_sem, hlt]) | (simp only [go_sem]; done)) (by first | exact ⟨_, _root_.id rfl⟩ | exact ⟨[], (List.append_nil _).symm⟩) ?_) <;> simp only [go_sem, hlt]
      exact hk _
def lotIs (a n : Int) (x : Lot) : Bool := x.account == a && x.instr == n
def ownL (xs : List Lot) (a n : Int) : List Lot := xs.filter (lotIs a n)
def sumQ (xs : List Lot) : Int := (xs.map (·.qty)).sum
def sumC (xs : List Lot) : Int := (xs.map (·.cost)).sum
def Fine (xs : List Lot) : Prop := (∀ x ∈ xs, (0 ≤ x.qty ∧ x.qty ≤ 1000000000000000) ∧ 0 ≤ x.cost ∧ x.cost ≤ 1000000000000000) ∧ xs.length ≤ 1000
theorem Fine.own {xs : List Lot} (h : Fine xs) (a n : Int) : Fine (ownL xs a n) := ⟨fun x hx => h.1 x (List.mem_filter.1 hx).1, Nat.le_trans (List.length_filter_le _ _) h.2⟩
theorem sums_le : ∀ (xs : List Lot), (∀ x ∈ xs, (0 ≤ x.qty ∧ x.qty ≤ 1000000000000000) ∧ 0 ≤ x.cost ∧ x.cost ≤ 1000000000000000) → (0 ≤ sumQ xs ∧ sumQ xs ≤ 1000000000000000 * (xs.length : Int)) ∧ 0 ≤ sumC xs ∧ sumC xs ≤ 1000000000000000 * (xs.length : Int)
  | [], _ => by simp [sumQ, sumC]
  | x :: r, h => by
    have ih := sums_le r (fun y hy => h y (List.mem_cons_of_mem _ hy))
    have hx := h x (List.mem_cons_self ..)
    have e1 : sumQ (x :: r) = x.qty + sumQ r := by simp [sumQ]
    have e2 : sumC (x :: r) = x.cost + sumC r := by simp [sumC]
    rw [e1, e2, List.length_cons]
    omega
theorem sumQ_s (xs : List Lot) (i : Nat) (hi : i < xs.length) : sumQ (xs.take (i + 1)) = sumQ (xs.take i) + xs[i].qty ∧ sumC (xs.take (i + 1)) = sumC (xs.take i) + xs[i].cost := by
  constructor
  · rw [List.take_succ_eq_append_getElem hi, sumQ, sumQ, List.map_append, List.sum_append]; simp
  · rw [List.take_succ_eq_append_getElem hi, sumC, sumC, List.map_append, List.sum_append]; simp
theorem sums_w {xs : List Lot} (h : Fine xs) {i : Nat} (hi : i < xs.length) : wrap64 (sumQ (xs.take i) + xs[i].qty) = sumQ (xs.take i) + xs[i].qty ∧ wrap64 (sumC (xs.take i) + xs[i].cost) = sumC (xs.take i) + xs[i].cost := by
  have h1 := sums_le (xs.take i) (fun x hx => h.1 x (List.mem_of_mem_take hx))
  have h2 := h.1 _ (List.getElem_mem hi)
  have h3 := h.2
  rw [List.length_take] at h1
  exact ⟨wrap_id _ (by omega) (by omega), wrap_id _ (by omega) (by omega)⟩
theorem c_isLot (x : Lot) (a n : Int) (K : AV → AH → Prop) (hk : K (.one (.c (.bool (lotIs a n x)))) []) : ACalls Tryz.prog 138 [.agg (lotC x), (.one (.c (.int .i64 (a)))), (.one (.c (.int .i64 (n))))] [] K := by
  refine acall_c Tryz.f138.results.toList mixed Tryz.func138 rfl rfl (by kernel_rfl) ?_
  intro Q hQ hQO
  simp only [go_sem]
  (try simp only [go_sem]); repeat' (first | (with_reducible refine c_split (fun hb => ?_) (fun hb => ?_) <;> try simp only [go_sem, hb]) | (with_reducible refine w_split (fun hb => ?_) (fun hb => ?_) <;> try simp only [go_sem, hb]) | (with_reducible refine hQ _ _ ?_ <;> simp only [Tryz.f138, go_sem]))
  · exact kB hk (by rw [lotIs, hb, Bool.true_and])
  · exact kB hk (by rw [lotIs, hb, Bool.false_and])
theorem c_lotsOf1 (x : Lot) (a n : Int) (h0 : AH) (c1 c2 : Nat) (hc1 : h0[c1]? = some (.own 0 3 1 (some 1) [[.c (.int .i64 (a))]])) (hc2 : h0[c2]? = some (.own 0 3 1 (some 1) [[.c (.int .i64 (n))]])) (K : AV → AH → Prop) (hk : K (.one (.c (.bool (!lotIs a n x)))) h0) : ACalls Tryz.prog 137 [.agg (lotC x), .one (.pt c1 0 0 0), .one (.pt c2 0 0 0)] h0 K := by
  refine acall_m Tryz.f137.results.toList mixed Tryz.func137 rfl rfl (by kernel_rfl) ?_
  intro hwf Q hQ
  simp only [go_sem, fun a => h_old a hc1, fun a => h_old a hc2]
  (try simp only [go_sem, fun a => h_old a hc1, fun a => h_old a hc2]); repeat' (first | (with_reducible refine c_split (fun hb => ?_) (fun hb => ?_) <;> try simp only [go_sem, hb, fun a => h_old a hc1, fun a => h_old a hc2]) | (with_reducible refine w_split (fun hb => ?_) (fun hb => ?_) <;> try simp only [go_sem, hb, fun a => h_old a hc1, fun a => h_old a hc2]) | (refine call_c (c_isLot x a n _ ?_) <;> try simp only [go_sem, fun a => h_old a hc1, fun a => h_old a hc2]) | (fail))
  refine hQ (h0) _ _ ?_; refine GC.now (ret_m (by simp only [go_sem, Tryz.f137]; exact _root_.id rfl) (by simp only [go_sem]) (by simp) (by first | exact hwf | exact wf_set hwf (by simp only [go_sem]) | exact wf_set2 hwf (by simp only [go_sem]) (by simp only [go_sem]) | (simp only [go_sem]; done)) (by first | exact ⟨_, _root_.id rfl⟩ | exact ⟨[], (List.append_nil _).symm⟩) ?_) <;> simp only [go_sem]
  exact hk
theorem c_lotsOf (xs : List Lot) (a n : Int) (hn : xs.length ≤ 1000000000) (K : AV → AH → Prop) (hk : K (.one (.im ((ownL xs a n).map lotC))) []) : ACalls Tryz.prog 124 [(.one (.im (xs.map lotC))), (.one (.c (.int .i64 (a)))), (.one (.c (.int .i64 (n))))] [] K := by
  refine acall_im ?_
  refine acall_c Tryz.f124.results.toList mixed Tryz.func124 rfl rfl (by kernel_rfl) ?_
  intro Q hQ hQO
  simp only [go_sem]
  (try simp only [go_sem]); repeat' (first | (with_reducible refine c_split (fun hb => ?_) (fun hb => ?_) <;> try simp only [go_sem, hb]) | (with_reducible refine w_split (fun hb => ?_) (fun hb => ?_) <;> try simp only [go_sem, hb]) | (refine call_c (c_CloneLot xs hn _ (fun cap => ?_)) <;> try simp only [go_sem]) | (fail))
  refine call_h (c_DeleteFuncLot xs 2 0 cap _ _ (fun x => !lotIs a n x) _ rfl hn ?_ (by decide) rfl _ (fun rest => ?_))
  · intro h1 x K' hcap hk'
    refine .inr (.inl ⟨rfl, c_lotsOf1 x a n h1 0 1 ?_ ?_ _ hk'⟩)
    · exact (hcap 0 (by simp)).trans rfl
    · exact (hcap 1 (by simp)).trans rfl
  · have hff : (xs.filter fun x => !!lotIs a n x) = ownL xs a n := by unfold ownL; congr 1; funext x; simp
    simp only [hff]
    simp only [go_sem]
    (try simp only [go_sem]); repeat' (first | (with_reducible refine c_split (fun hb => ?_) (fun hb => ?_) <;> try simp only [go_sem, hb]) | (with_reducible refine w_split (fun hb => ?_) (fun hb => ?_) <;> try simp only [go_sem, hb]) | (fail))
    have htk : (List.map lotC (ownL xs a n ++ rest)).take (ownL xs a n).length = (ownL xs a n).map lotC := by rw [← List.map_take, List.take_left]
    refine hQO [2] _ _ (GC.step (Ghost.cut (l := 2) rfl (ownL xs a n).length) (GC.now ?_)) <;> simp only [Tryz.f124, go_sem, List.nodup_cons, List.nodup_nil, List.mem_cons, List.not_mem_nil, or_false, not_false_eq_true, List.idxOf?_cons, List.idxOf?_nil, Option.map_none, htk]
    exact hk
theorem c_sumLots (xs : List Lot) (h : Fine xs) (K : AV → AH → Prop) (hk : K (.tup [(.one (.c (.int .i64 (sumQ xs)))), (.one (.c (.int .i64 (sumC xs))))]) []) : ACalls Tryz.prog 123 [(.one (.im (xs.map lotC)))] [] K := by
  have hn : xs.length ≤ 1000000000 := by have := h.2; omega
  refine acall_c Tryz.f123.results.toList mixed Tryz.func123 rfl rfl (by kernel_rfl) ?_
  intro Q hQ hQO
  simp only [go_sem]
  refine for_at (xs.length) [8, 9] (fun i f h => f 4 = (.one (.c (.int .i64 (sumQ (xs.take i))))) ∧ f 5 = (.one (.c (.int .i64 (sumC (xs.take i))))) ∧ f 10 = (.one (.c (.int .i64 (i)))) ∧ h = []) (GC.now ?_) ?_
  · simp only [go_sem, nc_0, true_and]
    exact ⟨rfl, rfl⟩
  · rintro i f h J hi hA ⟨e4, e5, e10, rfl⟩ hJ
    simp only [go_sem] at hA
    simp only [go_sem, hA, e4, e5, e10]
    refine c_split (fun hb => ?_) (fun hb => ?_)
    rotate_left
    · simp only [go_sem, hb, hA, e4, e5, e10]
      obtain rfl := ge_len hb hi
      (try simp only [go_sem, hA, e4, e5, e10, List.take_length]); repeat' (first | (with_reducible refine c_split (fun hb => ?_) (fun hb => ?_) <;> try simp only [go_sem, hb, hA, e4, e5, e10, List.take_length]) | (with_reducible refine w_split (fun hb => ?_) (fun hb => ?_) <;> try simp only [go_sem, hb, hA, e4, e5, e10, List.take_length]) | (with_reducible refine hQ _ _ ?_ <;> simp only [Tryz.f123, go_sem, hA, e4, e5, e10, List.take_length]))
      exact hk
    have hi := lt_len hb
    have hw := wrap_nat i (by omega)
    have hil : (i : Int) < ((xs.length : Nat) : Int) := Int.ofNat_lt.2 hi
    have hg0 : (xs)[i]? = some ((xs)[i]) := List.getElem?_eq_getElem (by omega)
    simp only [go_sem, hb, hA, e4, e5, e10, hg0]
    try simp only [go_sem, hA, e4, e5, e10, hil, hg0]
    obtain ⟨s1, s2⟩ := sumQ_s xs i hi
    obtain ⟨w1, w2⟩ := sums_w h hi
    (try simp only [go_sem, hA, e4, e5, e10, hil, hg0, w1, w2]); repeat' (first | (with_reducible refine c_split (fun hb => ?_) (fun hb => ?_) <;> try simp only [go_sem, hb, hA, e4, e5, e10, hil, hg0, w1, w2]) | (with_reducible refine w_split (fun hb => ?_) (fun hb => ?_) <;> try simp only [go_sem, hb, hA, e4, e5, e10, hil, hg0, w1, w2]) | (fail))
    refine gc_trim 0 (by decide) (by simp only [go_sem]) (by simp only [go_sem]) (hJ _ _ hi (by simp only [go_sem, hA, e4, e5, e10]) ⟨?_, ?_, ?_, ?_⟩) <;> try simp only [go_sem, hA, e4, e5, e10, hw, s1, s2]
def badLot (xs : List Lot) (x : Lot) : Bool := !amtOk (sumQ (ownL xs x.account x.instr)) || !amtOk (sumC (ownL xs x.account x.instr))
theorem c_LotsOk1 (x : Lot) (xs : List Lot) (hf : Fine xs) (h0 : AH) (c : Nat) (hc : h0[c]? = some (.own 0 37 1 (some 1) [[.im (xs.map lotC)]])) (K : AV → AH → Prop) (hk : K (.one (.c (.bool (badLot xs x)))) h0) : ACalls Tryz.prog 122 [.agg (lotC x), .one (.pt c 0 0 0)] h0 K := by
  have hn : xs.length ≤ 1000000000 := by have := hf.2; omega
  refine acall_m Tryz.f122.results.toList mixed Tryz.func122 rfl rfl (by kernel_rfl) ?_
  intro hwf Q hQ
  simp only [go_sem, fun a => h_old a hc]
  (try simp only [go_sem, fun a => h_old a hc]); repeat' (first | (with_reducible refine c_split (fun hb => ?_) (fun hb => ?_) <;> try simp only [go_sem, hb, fun a => h_old a hc]) | (with_reducible refine w_split (fun hb => ?_) (fun hb => ?_) <;> try simp only [go_sem, hb, fun a => h_old a hc]) | (refine call_c (c_lotsOf xs x.account x.instr hn _ ?_) <;> try simp only [go_sem, fun a => h_old a hc]) | (refine call_c (c_sumLots (ownL xs x.account x.instr) (hf.own _ _) _ ?_) <;> try simp only [go_sem, fun a => h_old a hc]) | (refine call_c (c_impl_AmountOk _ _ ?_) <;> try simp only [go_sem, fun a => h_old a hc]) | (fail))
  · refine hQ (h0) _ _ ?_; refine GC.now (ret_m (by simp only [go_sem, Tryz.f122]; exact _root_.id rfl) (by simp only [go_sem]) (by simp) (by first | exact hwf | exact wf_set hwf (by simp only [go_sem]) | exact wf_set2 hwf (by simp only [go_sem]) (by simp only [go_sem]) | (simp only [go_sem]; done)) (by first | exact ⟨_, _root_.id rfl⟩ | exact ⟨[], (List.append_nil _).symm⟩) ?_) <;> simp only [go_sem]
    exact kB hk (by rw [badLot, hb]; rfl)
  · refine hQ (h0) _ _ ?_; refine GC.now (ret_m (by simp only [go_sem, Tryz.f122]; exact _root_.id rfl) (by simp only [go_sem]) (by simp) (by first | exact hwf | exact wf_set hwf (by simp only [go_sem]) | exact wf_set2 hwf (by simp only [go_sem]) (by simp only [go_sem]) | (simp only [go_sem]; done)) (by first | exact ⟨_, _root_.id rfl⟩ | exact ⟨[], (List.append_nil _).symm⟩) ?_) <;> simp only [go_sem]
    exact kB hk (by rw [badLot, hb]; rfl)
theorem c_ContainsLot (xs : List Lot) (g : Nat) (c : Nat) (p : Lot → Bool) (h0 : AH) (K : AV → AH → Prop) (hn : xs.length ≤ 1000000000)
    (hp : ∀ i (hi : i < xs.length) (K' : AV → AH → Prop), K' (.one (.c (.bool (p xs[i])))) h0 → callA Tryz.prog g ([.agg (lotC xs[i])] ++ [c].map fun l => .one (.pt l 0 0 0)) h0 K')
    (hk : K (.one (.c (.bool (decide (0 ≤ findG p xs))))) h0) : ACalls Tryz.prog 121 [(.one (.im (xs.map lotC))), .one (.clo g [c])] h0 K := by
  refine acall_m Tryz.f121.results.toList mixed Tryz.func121 rfl rfl (by kernel_rfl) ?_
  intro hwf Q hQ
  simp only [go_sem, ca_clos]
  refine .inr (.inl ⟨rfl, c_IndexFuncLot xs g [c] p _ _ hn hp ?_⟩)
  simp only [go_sem]
  (try simp only [go_sem]); repeat' (first | (with_reducible refine c_split (fun hb => ?_) (fun hb => ?_) <;> try simp only [go_sem, hb]) | (with_reducible refine w_split (fun hb => ?_) (fun hb => ?_) <;> try simp only [go_sem, hb]) | (fail))
  refine hQ (h0) _ _ ?_; refine GC.now (ret_m (by simp only [go_sem, Tryz.f121]; exact _root_.id rfl) (by simp only [go_sem]) (by simp) (by first | exact hwf | exact wf_set hwf (by simp only [go_sem]) | exact wf_set2 hwf (by simp only [go_sem]) (by simp only [go_sem]) | (simp only [go_sem]; done)) (by first | exact ⟨_, _root_.id rfl⟩ | exact ⟨[], (List.append_nil _).symm⟩) ?_) <;> simp only [go_sem]
  exact hk
def lotP (x : Lot) : Bool := noOk x.account && noOk x.instr && decide (1 ≤ x.no ∧ x.no ≤ 1000000000) && decide (1 ≤ x.qty ∧ x.qty ≤ 1000000000000000) && decide (0 ≤ x.cost ∧ x.cost ≤ 1000000000000000)
def lotLt (y x : Lot) : Bool := pairLt y.account y.instr x.account x.instr || (decide (y.account = x.account) && decide (y.instr = x.instr) && decide (y.no < x.no))
def lotCmp (y x : Lot) : Int := if byBoth y.account y.instr x.account x.instr = 0 then (if y.no < x.no then -1 else if x.no < y.no then 1 else 0) else byBoth y.account y.instr x.account x.instr
theorem lotLt_iff {y x : Lot} : lotLt y x = true ↔ (y.account < x.account ∨ y.account = x.account ∧ y.instr < x.instr) ∨ (y.account = x.account ∧ y.instr = x.instr) ∧ y.no < x.no := by
  simp [lotLt, pairLt]
theorem lotCmp_lt {y x : Lot} : lotLt y x = decide (lotCmp y x < 0) := by
  have h1 := byBoth_lt (a := y.account) (b := y.instr) (c := x.account) (d := x.instr)
  by_cases hl : lotLt y x = true
  · rw [hl]
    refine (decide_eq_true ?_).symm
    have := lotLt_iff.1 hl
    unfold lotCmp
    split
    · rename_i h0
      have := h1.2.1 h0
      split
      · decide
      · omega
    · rename_i h0
      exact h1.1.2 (pairLt_iff.2 (by have := fun q => h0 (h1.2.2 q); omega))
  · rw [show lotLt y x = false by simpa using hl]
    refine (decide_eq_false fun q => hl (lotLt_iff.2 ?_)).symm
    unfold lotCmp at q
    split at q
    · rename_i h0
      have := h1.2.1 h0
      split at q
      · omega
      · split at q <;> omega
    · have := pairLt_iff.1 (h1.1.1 q); omega
theorem c_lotForm (x : Lot) (K : AV → AH → Prop) (hk : K (.one (.c (.bool (lotP x)))) []) : ACalls Tryz.prog 119 [.agg (lotC x)] [] K := by
  refine acall_c Tryz.f119.results.toList mixed Tryz.func119 rfl rfl (by kernel_rfl) ?_
  intro Q hQ hQO
  simp only [go_sem]
  (try simp only [go_sem]); repeat' (first | (with_reducible refine c_split (fun hb => ?_) (fun hb => ?_) <;> try simp only [go_sem, hb]) | (with_reducible refine w_split (fun hb => ?_) (fun hb => ?_) <;> try simp only [go_sem, hb]) | (refine call_c (c_isNo _ _ ?_) <;> try simp only [go_sem]) | (refine call_c (c_in _ _ _ _ ?_) <;> try simp only [go_sem]) | (with_reducible refine hQ _ _ ?_ <;> simp only [Tryz.f119, go_sem]))
  all_goals (refine kB hk ?_; simp only [lotP]; simp_all <;> (intros; omega))
theorem c_l5Right (x : Lot) (K : AV → AH → Prop) (hk : K (.one (.c (.bool (lotP x)))) []) : ACalls Tryz.prog 108 [.agg (lotC x)] [] K := by
  refine acall_c Tryz.f108.results.toList mixed Tryz.func108 rfl rfl (by kernel_rfl) ?_
  intro Q hQ hQO
  simp only [go_sem]
  (try simp only [go_sem]); repeat' (first | (with_reducible refine c_split (fun hb => ?_) (fun hb => ?_) <;> try simp only [go_sem, hb]) | (with_reducible refine w_split (fun hb => ?_) (fun hb => ?_) <;> try simp only [go_sem, hb]) | (refine call_c (c_l3No _ _ ?_) <;> try simp only [go_sem]) | (refine call_c (c_l1In _ _ _ _ ?_) <;> try simp only [go_sem]) | (refine call_c (c_l1Some _ _ _ ?_) <;> try simp only [go_sem]) | (with_reducible refine hQ _ _ ?_ <;> simp only [Tryz.f108, go_sem]))
  all_goals (refine kB hk ?_; simp only [lotP]; simp_all <;> (intros; omega))
theorem c_lotBefore (y x : Lot) (K : AV → AH → Prop) (hk : K (.one (.c (.int .i64 (lotCmp y x)))) []) : ACalls Tryz.prog 120 [.agg (lotC y), .agg (lotC x)] [] K := by
  refine acall_c Tryz.f120.results.toList mixed Tryz.func120 rfl rfl (by kernel_rfl) ?_
  intro Q hQ hQO
  simp only [go_sem]
  (try simp only [go_sem]); repeat' (first | (with_reducible refine c_split (fun hb => ?_) (fun hb => ?_) <;> try simp only [go_sem, hb]) | (with_reducible refine w_split (fun hb => ?_) (fun hb => ?_) <;> try simp only [go_sem, hb]) | (refine call_c (c_byBoth _ _ _ _ _ ?_) <;> try simp only [go_sem]) | (with_reducible refine hQ _ _ ?_ <;> simp only [Tryz.f120, go_sem]))
  all_goals refine (congrArg (fun q => K (.one (.c (.int .i64 q))) []) ?_).mp hk
  all_goals (unfold lotCmp; simp_all; try omega)
theorem c_l5Before (y x : Lot) (K : AV → AH → Prop) (hk : K (.one (.c (.bool (lotLt y x)))) []) : ACalls Tryz.prog 109 [.agg (lotC y), .agg (lotC x)] [] K := by
  refine acall_c Tryz.f109.results.toList mixed Tryz.func109 rfl rfl (by kernel_rfl) ?_
  intro Q hQ hQO
  simp only [go_sem]
  (try simp only [go_sem]); repeat' (first | (with_reducible refine c_split (fun hb => ?_) (fun hb => ?_) <;> try simp only [go_sem, hb]) | (with_reducible refine w_split (fun hb => ?_) (fun hb => ?_) <;> try simp only [go_sem, hb]) | (refine call_c (c_l4Before _ _ _ _ _ ?_) <;> try simp only [go_sem]) | (with_reducible refine hQ _ _ ?_ <;> simp only [Tryz.f109, go_sem]))
  all_goals (refine kB hk ?_; simp only [lotLt]; simp_all)
end Go.Proofs.YtedkpjaojdkpcaaGreat
