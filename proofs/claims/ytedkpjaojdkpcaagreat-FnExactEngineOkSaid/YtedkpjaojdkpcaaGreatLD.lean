/- Loops: registers that keep what they hold, and what a round leaves. Conditions: none. -/
import Derived.Test.YtedkpjaojdkpcaaGreatLC
namespace Go.BL
open Go.RowKit
set_option linter.unusedVariables false
set_option linter.unusedSimpArgs false
/-- Registers that hold what they held. -/
def agree : List Nat → AF → AF → Prop
  | [], _, _ => True
  | r :: L, f, f0 => f r = f0 r ∧ agree L f f0
theorem ag_nil (f f0 : AF) : agree [] f f0 = True := _root_.id rfl
theorem ag_cons (r : Nat) (L : List Nat) (f f0 : AF) : agree (r :: L) f f0 = (f r = f0 r ∧ agree L f f0) := _root_.id rfl
theorem agree_refl (f : AF) : ∀ L, agree L f f
  | [] => trivial
  | _ :: L => ⟨rfl, agree_refl f L⟩
section
variable {P : Program} {b : Code} {s : List Fr} {Q : QT} {f0 : AF} {h0 : AH}
/-- A loop over 0 .. n - 1. -/
theorem for_at (n : Nat) (L : List Nat) (I : Nat → AF → AH → Prop) (h : GC Q.m (fun f h => agree L f f0 ∧ I 0 f h) f0 h0)
    (hr : ∀ (i : Nat) (f : AF) (h : AH) (J : AF → AH → Prop), i ≤ n → agree L f f0 → I i f h → (∀ f' h', i < n → agree L f' f0 → I (i + 1) f' h' → J f' h') → goG P b (.inv J :: s) Q f h) : lpG P b s Q f0 h0 := by
  refine loop_at (fun k f h => ∃ i, i ≤ n ∧ k = n - i ∧ agree L f f0 ∧ I i f h) n (h.mono fun f h hh => ⟨0, Nat.zero_le _, rfl, hh⟩) ?_
  rintro k f h J hJ ⟨i, hi, rfl, hA, hI⟩
  exact hr i f h J hi hA hI fun f' h' hlt hA' hI' => hJ (n - (i + 1)) f' h' (by omega) ⟨i + 1, hlt, rfl, hA', hI'⟩
/-- A loop with a state of its own, and a measure of it. -/
theorem while_at {α : Type} (μ : α → Nat) (L : List Nat) (I : α → AF → AH → Prop) (a0 : α) (h : GC Q.m (fun f h => agree L f f0 ∧ I a0 f h) f0 h0)
    (hr : ∀ (a : α) (f : AF) (h : AH) (J : AF → AH → Prop), agree L f f0 → I a f h → (∀ a' f' h', μ a' < μ a → agree L f' f0 → I a' f' h' → J f' h') → goG P b (.inv J :: s) Q f h) : lpG P b s Q f0 h0 := by
  refine loop_at (fun k f h => ∃ a, k = μ a ∧ agree L f f0 ∧ I a f h) (μ a0) (h.mono fun f h hh => ⟨a0, rfl, hh⟩) ?_
  rintro k f h J hJ ⟨a, rfl, hA, hI⟩
  exact hr a f h J hA hI fun a' f' h' hlt hA' hI' => hJ (μ a') f' h' hlt ⟨a', rfl, hA', hI'⟩
end
theorem nc_0 : ((0 : Nat) : Int) = 0 := _root_.id rfl
theorem wrap_nat (i : Nat) (hi : i < 9223372036854775807) : wrap64 ((i : Int) + 1) = ((i + 1 : Nat) : Int) := by unfold wrap64; omega
theorem wrap_id (n : Int) (h1 : -9223372036854775808 ≤ n) (h2 : n ≤ 9223372036854775807) : wrap64 n = n := by unfold wrap64; omega
theorem lt_len {n i : Nat} (h : decide ((i : Int) < (n : Int)) = true) : i < n := by have := of_decide_eq_true h; omega
theorem ge_len {n i : Nat} (h : decide ((i : Int) < (n : Int)) = false) (hi : i ≤ n) : i = n := by have := of_decide_eq_false h; omega
/-! ### Functions that are handed owned objects -/
section
variable {P : Program} {G : Cx} {φ : Phi} {M : Im} {h : AH} {w : World}
/-- Nothing leads out of the objects. -/
def wfH (h : AH) : Prop := h.all (ltO h.length) = true
theorem Rep.wfH (R : Rep G φ M h w) : wfH h := by
  have hl : ∀ l p, φ l = some p → l < h.length := fun l p hp => by
    rcases Nat.lt_or_ge l h.length with q | q
    · exact q
    · rw [R.dom l q] at hp; cases hp
  unfold BL.wfH
  rw [List.all_eq_true]
  intro o ho
  obtain ⟨i, hi⟩ := List.mem_iff_getElem?.1 ho
  cases o with
  | dead => rfl
  | ro _ _ _ _ => rfl
  | own g t k cap es =>
    simp only [ltO, List.all_eq_true]
    intro e he x hx
    obtain ⟨q, hq⟩ := List.mem_iff_getElem?.1 he
    obtain ⟨j, hj⟩ := List.mem_iff_getElem?.1 hx
    obtain ⟨p, _, _, _, _, hc⟩ := R.cell hi hq
    obtain ⟨v, _, hv⟩ := hc j x hj
    cases x with
    | pt l g i off => obtain ⟨_, p, h2, _⟩ := hv; simpa [ltV] using hl l p h2
    | sl l g off len => obtain ⟨_, p, h2, _⟩ := hv; simpa [ltV] using hl l p h2
    | clo g caps =>
      obtain ⟨vs, _, _, h3⟩ := hv
      simp only [ltV, List.all_eq_true, decide_eq_true_eq]
      intro l hlm
      obtain ⟨q, hq⟩ := List.mem_iff_getElem?.1 hlm
      obtain ⟨v, _, _, p, h6, _⟩ := h3 q l hq
      exact hl l p h6
    | _ => rfl
theorem wf_set {l : Nat} {o : AO} (hw : wfH h) (ho : ltO h.length o = true) : (h.set l o).all (ltO h.length) = true := by
  rw [List.all_eq_true]
  intro x hx
  rcases List.mem_or_eq_of_mem_set hx with hx | rfl
  · exact (List.all_eq_true.1 hw) x hx
  · exact ho
/-- A plain answer, and objects as they stand at last; what was made beside them is forgotten. -/
def retM (P : Program) (hf : AH) (n : Nat) (rs : List ResultVar) (K : AV → AH → Prop) (f : AF) (h : AH) : Prop := On (rsG P f h rs) fun vs => vs.all notTup = true ∧ hf.length = n ∧ hf.all (ltO n) = true ∧ (∃ ext, h = hf ++ ext) ∧ K (trA n (oneOrTup vs)) hf
theorem acall_m {g : Nat} {fn : Func} {c : Code} {args : List AV} {K : AV → AH → Prop} (rs : List ResultVar) (hmo : P.follows .mixedOrders = true) (hf : P.funcs[g]? = some fn) (hrs : fn.results.toList = rs) (hbody : fn.body = some c) (hB : (codeB fn.ntmps c && fnB fn && hasBody P g && decide (args.length ≤ fn.ntmps)) = true)
    (H : wfH h → ∀ Q : AExit → AF → AH → Prop, (∀ hf f h', GC h.length (retM P hf h.length rs K) f h' → Q .ret f h') → goG P c [] ⟨h.length, Q⟩ (frame0 args) h) : ACalls P g args h K := by
  have main : ∀ hw : wfH h, ACalls P g args h K := fun hw => acall_gen rs hmo hf hrs hbody hB (fun Q hm hQ => by
    obtain ⟨m, q⟩ := Q
    simp only at hm
    subst hm
    refine H hw q (fun hf f h' hr => (hQ f h' (hr.mono fun f h' hr => ?_)).1)
    unfold retM at hr
    obtain ⟨vs, hvs, hnt, hlen, hlt, ⟨ext, rfl⟩, hk⟩ := hr.elim
    unfold ARet
    rw [hvs]
    refine ⟨hnt, trA h.length (oneOrTup vs), hf, hk, fun G φ M w u R hv => ?_⟩
    have htk : (hf ++ ext).take h.length = hf := by rw [← hlen, List.take_left]
    obtain ⟨φ', M', R', hM, hkeep, hreg⟩ := Ghost.trim (m := h.length) (f := fun _ => oneOrTup vs) h.length (Nat.le_refl _) (by simp; omega) (by rw [htk]; exact hlt) G φ M w R
    rw [htk] at R'
    exact ⟨φ', M', R', hreg 0 u hv, fun l p hl hp => hkeep l p hl hp⟩)
  refine ⟨by simp only [Bool.and_eq_true] at hB; exact hB.1.2, fun φ M w vs R ha => (main R.wfH).2 φ M w vs R ha⟩
/-- The same, where the text ends without a return. -/
theorem acall_n {g : Nat} {fn : Func} {c : Code} {args : List AV} {K : AV → AH → Prop} (rs : List ResultVar) (hmo : P.follows .mixedOrders = true) (hf : P.funcs[g]? = some fn) (hrs : fn.results.toList = rs) (hbody : fn.body = some c) (hB : (codeB fn.ntmps c && fnB fn && hasBody P g && decide (args.length ≤ fn.ntmps)) = true)
    (H : wfH h → ∀ Q : AExit → AF → AH → Prop, (∀ hf f h', GC h.length (retM P hf h.length rs K) f h' → Q .normal f h') → goG P c [] ⟨h.length, Q⟩ (frame0 args) h) : ACalls P g args h K := by
  have main : ∀ hw : wfH h, ACalls P g args h K := fun hw => acall_gen rs hmo hf hrs hbody hB (fun Q hm hQ => by
    obtain ⟨m, q⟩ := Q
    simp only at hm
    subst hm
    refine H hw q (fun hf f h' hr => (hQ f h' (hr.mono fun f h' hr => ?_)).2)
    unfold retM at hr
    obtain ⟨vs, hvs, hnt, hlen, hlt, ⟨ext, rfl⟩, hk⟩ := hr.elim
    unfold ARet
    rw [hvs]
    refine ⟨hnt, trA h.length (oneOrTup vs), hf, hk, fun G φ M w u R hv => ?_⟩
    have htk : (hf ++ ext).take h.length = hf := by rw [← hlen, List.take_left]
    obtain ⟨φ', M', R', hM, hkeep, hreg⟩ := Ghost.trim (m := h.length) (f := fun _ => oneOrTup vs) h.length (Nat.le_refl _) (by simp; omega) (by rw [htk]; exact hlt) G φ M w R
    rw [htk] at R'
    exact ⟨φ', M', R', hreg 0 u hv, fun l p hl hp => hkeep l p hl hp⟩)
  refine ⟨by simp only [Bool.and_eq_true] at hB; exact hB.1.2, fun φ M w vs R ha => (main R.wfH).2 φ M w vs R ha⟩
theorem ret_m {P : Program} {hf : AH} {n : Nat} {rs : List ResultVar} {K : AV → AH → Prop} {f : AF} {h : AH} {vs : List AV} (h1 : rsG P f h rs = some vs) (h2 : vs.all notTup = true) (h4 : hf.length = n) (h5 : hf.all (ltO n) = true) (h6 : ∃ ext, h = hf ++ ext) (h7 : K (trA n (oneOrTup vs)) hf) : retM P hf n rs K f h := by
  unfold retM
  rw [h1]
  exact ⟨h2, h4, h5, h6, h7⟩
end
end Go.BL
namespace Go.BL
open Go.RowKit
/-- The same answer in other words. -/
theorem kB {K : AV → AH → Prop} {a b : Bool} {h : AH} (hk : K (.one (.c (.bool a))) h) (e : b = a) : K (.one (.c (.bool b))) h := e ▸ hk
theorem kI {K : AV → AH → Prop} {a b : Int} {h : AH} (hk : K (.one (.c (.int .i64 a))) h) (e : b = a) : K (.one (.c (.int .i64 b))) h := e ▸ hk
theorem kT {K : AV → AH → Prop} {a b : ByteArray} {h : AH} (hk : K (.one (.c (.string a))) h) (e : b = a) : K (.one (.c (.string b))) h := e ▸ hk
theorem kA {K : AV → AH → Prop} {a b : AV} {h : AH} (hk : K a h) (e : b = a) : K b h := e ▸ hk
end Go.BL
/-! ### Rows that are filled from the front -/
namespace Go.BL
section
variable {α β : Type}
/-- A row whose first i elements are new. -/
def fillR (new : Nat → β) (old : List β) (i : Nat) : List β := (List.range i).map new ++ old.drop i
theorem fill_0 (new : Nat → β) (old : List β) : fillR new old 0 = old := by simp [fillR]
theorem fill_len (new : Nat → β) (old : List β) (i : Nat) (hi : i ≤ old.length) : (fillR new old i).length = old.length := by simp [fillR]; omega
theorem fill_get (new : Nat → β) (old : List β) (i : Nat) : (fillR new old i)[i]? = old[i]? := by
  rw [fillR, List.getElem?_append_right (by simp)]
  simp
theorem fill_set (new : Nat → β) (old : List β) (i : Nat) (hi : i < old.length) (e : β) (he : e = new i) : (fillR new old i).set i e = fillR new old (i + 1) := by
  subst he
  apply List.ext_getElem?
  intro j
  by_cases hj : j = i
  · subst hj
    rw [List.getElem?_set_self (by rw [fill_len _ _ _ (by omega)]; exact hi), fillR, List.getElem?_append_left (by simp)]
    simp
  · rw [List.getElem?_set_ne (Ne.symm hj)]
    unfold fillR
    by_cases h1 : j < i
    · rw [List.getElem?_append_left (by simpa using h1), List.getElem?_append_left (by simp; omega), List.getElem?_map, List.getElem?_map, List.getElem?_range h1, List.getElem?_range (by omega)]
    · rw [List.getElem?_append_right (by simp; omega), List.getElem?_append_right (by simp; omega), List.getElem?_drop, List.getElem?_drop]
      congr 1
      simp
      omega
theorem fill_all (new : Nat → β) (old : List β) : fillR new old old.length = (List.range old.length).map new := by simp [fillR]
theorem fill_copy (xs old : List α) (z : α) (hl : old.length = xs.length) : fillR (fun i => xs[i]?.getD z) old xs.length = xs := by
  rw [← hl, fill_all, hl]
  apply List.ext_getElem?
  intro j
  rw [List.getElem?_map]
  by_cases h : j < xs.length
  · rw [List.getElem?_range h, List.getElem?_eq_getElem h]; simp [h]
  · rw [List.getElem?_eq_none (by simpa using h), List.getElem?_eq_none (by omega)]; rfl
theorem map_rep (enc : α → β) (n : Nat) (z : α) (e : β) (he : enc z = e) : List.replicate n e = (List.replicate n z).map enc := by simp [he]
theorem set_at {h : List β} {l : Nat} {a : β} (hl : h[l]? = some a) (o : β) : (h.set l o)[l]? = some o := by
  rw [List.getElem?_set_self (List.getElem?_eq_some_iff.1 hl).1]
end
end Go.BL
/-! ### Bytes and texts -/
namespace Go.BL
theorem bo_nil : bytesOf [] = some [] := _root_.id rfl
theorem bo_cons (n : Int) (r : List (List CV)) : bytesOf ([.c (.int .u8 n)] :: r) = (bytesOf r).map (n :: ·) := by
  simp only [bytesOf, byteOf]
  cases bytesOf r <;> rfl
theorem strOf_size (xs : List Int) : (strOf xs).size = xs.length := by simp [strOf, ByteArray.size]
def byteC (b : UInt8) : List CV := [.c (.int .u8 b.toNat)]
theorem bytesE_map (s : ByteArray) : bytesE s = s.data.toList.map byteC := _root_.id rfl
theorem bo_map (bs : List UInt8) : bytesOf (bs.map byteC) = some (bs.map fun b => (b.toNat : Int)) := by
  induction bs with
  | nil => rfl
  | cons b r ih => rw [List.map_cons, byteC, bo_cons, ih]; rfl
theorem so_map (bs : List UInt8) : strOf (bs.map fun b => (b.toNat : Int)) = ⟨bs.toArray⟩ := by
  simp only [strOf, List.map_map]
  congr 2
  conv => rhs; rw [← List.map_id bs]
  exact List.map_congr_left fun b _ => by simp
theorem so_E (s : ByteArray) : strOf (s.data.toList.map fun b => (b.toNat : Int)) = s := by rw [so_map]
end Go.BL
namespace Go.BL
theorem tr_clo (n g : Nat) (caps : List Nat) (hc : caps.all (fun l => decide (l < n)) = true) : trA n (.one (.clo g caps)) = .one (.clo g caps) := by simp [trA, trA1, trV, ltV, hc]
theorem take_app {n : Nat} (h a : AH) (hl : h.length = n) : (h ++ a).take n = h := by subst hl; exact List.take_left
end Go.BL
namespace Go.BL
theorem cset_end {α : Type} (cs ys : List α) (o : Nat) (h : o + ys.length = cs.length) : cset cs o ys = cs.take o ++ ys := by
  apply List.ext_getElem?
  intro j
  rw [cset_get ys cs o j (by omega)]
  by_cases h1 : o ≤ j
  · rw [List.getElem?_append_right (by simp; omega)]
    by_cases h2 : j < o + ys.length
    · rw [if_pos ⟨h1, h2⟩]; congr 1; simp; omega
    · rw [if_neg (fun q => h2 q.2), List.getElem?_eq_none (by omega), List.getElem?_eq_none (by simp; omega)]
  · rw [if_neg (fun q => h1 q.1), List.getElem?_append_left (by simp; omega), List.getElem?_take, if_pos (by omega)]
end Go.BL
namespace Go.BL
/-- Of an object less may be told. -/
theorem Ghost.cut {m : Nat} {f : AF} {h : AH} {l g k : Nat} {t : TypeId} {cap : Option Nat} {es : List (List CV)} (hl : h[l]? = some (.own g t k cap es)) (n : Nat) : Ghost m f h f (h.set l (.own g t k none (es.take n))) := fun G φ M w R => by
  have hown : ∀ i p, Own φ (h.set l (.own g t k none (es.take n))) i p → Own φ h i p := by
    rintro i p ⟨g1, t1, k1, cap1, es1, hi, hp, hv⟩
    rcases set_get hi with ⟨rfl, _, _⟩ | ⟨_, hi⟩
    · exact ⟨_, _, _, _, _, hl, hp, hv⟩
    · exact ⟨g1, t1, k1, cap1, es1, hi, hp, hv⟩
  have htk : ∀ (i : Nat) (e : List CV), (es.take n)[i]? = some e → es[i]? = some e := fun i e hi => by
    rw [List.getElem?_take] at hi
    split at hi
    · exact hi
    · cases hi
  refine ⟨φ, M, ⟨R.os, R.tape, R.output, R.size, R.blk, R.mon, R.imm, R.imn, fun i hi => R.dom i (by simpa using hi), fun i o hi => ?_, fun i p ho => R.new i p (hown i p ho), fun i j p q hi hj hne => R.inj i j p q (hown i p hi) (hown j q hj) hne, fun a v i p hm ho => R.dis a v i p hm (hown i p ho)⟩, MLe.refl _, fun l p _ hp => ⟨p, hp, .inl rfl⟩, fun r u hv => hv⟩
  rcases set_get hi with ⟨rfl, rfl, _⟩ | ⟨_, hi⟩
  · obtain ⟨p, h1, h2, h3, h4, h5, h6, h7, h8⟩ := R.obj i _ hl
    refine ⟨p, h1, h2, h3, by simp; omega, fun c hc => (by cases hc), fun e he => h6 e (List.mem_of_mem_take he), h7, fun hv => ?_⟩
    obtain ⟨h9, C, fr, h10, h11, h12, h13⟩ := h8 hv
    exact ⟨h9, C, fr, h10, h11, h12, fun i e j x hi hj => h13 i e j x (htk i e hi) hj⟩
  · exact R.obj i o hi
end Go.BL
namespace Go.BL
/-- Owned objects are told as content from now on. -/
theorem Ghost.freeze {m : Nat} {f : AF} {h : AH} (L : List Nat) : Ghost m f h f (frH L h) := fun G φ M w R => by
  obtain ⟨M', RF, hM, _⟩ := R.freeze L
  exact ⟨φ, M', RF, hM, fun _ p _ h => ⟨p, h, .inl rfl⟩, fun r u hv => hv.mono (Le.refl _) hM⟩
end Go.BL
