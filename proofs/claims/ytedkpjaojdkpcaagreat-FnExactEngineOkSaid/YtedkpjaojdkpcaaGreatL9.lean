/- The weakest precondition written out step by step, with what comes behind kept as data. Conditions: none. -/
import Derived.Test.YtedkpjaojdkpcaaGreatL8
namespace Go.BL
open Go.RowKit
set_option linter.unusedVariables false
set_option linter.unusedSimpArgs false

/-! ### 1. What comes behind, as data -/
structure QT where
  m : Nat
  q : AExit → AF → AH → Prop
inductive Fr where
  | seq (c : Code)
  | blk (id : Nat)
  | inv (J : AF → AH → Prop)
  | jn (J : AF → AH → Prop)
def ks (P : Program) : List Fr → QT → AExit → AF → AH → Prop
  | [], Q => Q.q
  | .seq c :: s, Q => AExit.then (fun f h => awp P Q.m c (ks P s Q) f h) (ks P s Q)
  | .blk id :: s, Q => AExit.inBlock id (ks P s Q)
  | .inv J :: s, Q => AExit.then (GC Q.m J) (ks P s Q)
  | .jn J :: s, Q => AExit.then J (ks P s Q)
inductive Ko where
  | sq (ds : DS) (dst : Option Nat) (rest : List Oper) (s : List Fr) (Q : QT) (f : AF)
  | dr (ds : DS) (ops : Array Oper) (dst : Option Nat) (op : Op) (L : List (Nat × Bool × Bool)) (sy : Bool) (s : List Fr) (Q : QT) (f : AF) (pr : List (Nat × Option AO))
def kr (P : Program) : Ko → AV → AH → Prop
  | .sq ds dst rest s Q f, v, h => aops P ds rest (ks P s Q .normal) (put f dst v) h
  | .dr ds ops dst op L sy s Q f pr, v, h => ((sy && allSy L) = true ∨ ∀ p ∈ pr, prOk op f h p) ∧ adraw P ds ops L (ks P s Q .normal) (put f dst v) h pr
/-- Behind an operation that leaves every object as it was. -/
def krl (P : Program) : Ko → AV → AH → Prop
  | .sq ds dst rest s Q f, v, h => aops P ds rest (ks P s Q .normal) (put f dst v) h
  | .dr ds ops dst op L sy s Q f pr, v, h => ((sy && allSy L) = true ∨ ∀ p ∈ pr, prOk0 h p) ∧ adraw P ds ops L (ks P s Q .normal) (put f dst v) h pr
/-- Behind an operation that leaves all objects but some as they were. -/
def krf (P : Program) : Ko → List Nat → AV → AH → Prop
  | .sq ds dst rest s Q f, _, v, h => aops P ds rest (ks P s Q .normal) (put f dst v) h
  | .dr ds ops dst op L sy s Q f pr, q, v, h => ((sy && allSy L) = true ∨ ∀ p ∈ pr, prOkF q h p) ∧ adraw P ds ops L (ks P s Q .normal) (put f dst v) h pr
/-- Where a guarded operation isn't carried out. -/
def kr0 (P : Program) : Ko → AH → Prop
  | .sq ds dst rest s Q f, h => aops P ds rest (ks P s Q .normal) (put f dst undefA) h
  | .dr ds ops dst op L sy s Q f pr, h => ((sy && allSy L) = true ∨ ∀ p ∈ pr, prOk0 h p) ∧ adraw P ds ops L (ks P s Q .normal) (put f dst undefA) h pr
def goG (P : Program) (c : Code) (s : List Fr) (Q : QT) (f : AF) (h : AH) : Prop := awp P Q.m c (ks P s Q) f h
def nxG (P : Program) (e : AExit) (s : List Fr) (Q : QT) (f : AF) (h : AH) : Prop := ks P s Q e f h
def rgG (P : Program) (ds : DS) (l : List Oper) (s : List Fr) (Q : QT) (f : AF) (h : AH) : Prop := aops P ds l (ks P s Q .normal) f h
def dwG (P : Program) (ops : Array Oper) (s : List Fr) (Q : QT) (f : AF) (h : AH) : Prop := ∃ L, schedOk ops L = true ∧ adraw P (dsts ops) ops L (ks P s Q .normal) f h []
def drG (P : Program) (ds : DS) (ops : Array Oper) (L : List (Nat × Bool × Bool)) (s : List Fr) (Q : QT) (f : AF) (h : AH) (pr : List (Nat × Option AO)) : Prop := adraw P ds ops L (ks P s Q .normal) f h pr
def lpG (P : Program) (b : Code) (s : List Fr) (Q : QT) (f : AF) (h : AH) : Prop := awp P Q.m (.loop b) (ks P s Q) f h
def cdG (P : Program) (v : AV) (x y : Code) (s : List Fr) (Q : QT) (f : AF) (h : AH) : Prop := match v with | .one (.c (.bool b)) => Br b (fun _ => goG P x s Q f h) (fun _ => goG P y s Q f h) | _ => False
def opG (P : Program) (op : Op) (f : AF) (h : AH) (k : Ko) : Prop := aop2 P op f h (kr P k) (krl P k) (krf P k)
def wtG (P : Program) (v : AV) (t : Bool) (op : Op) (f : AF) (h : AH) (k : Ko) : Prop := wantB v t (fun _ => opG P op f h k) (fun _ => kr0 P k h)

/-! ### From code to a call -/
def resOne (P : Program) (f : AF) (h : AH) : ResultVar → Option AV
  | .tmp t => some (f t)
  | .cell a t => match f a with
    | .one (.pt l g i off) => (objR h l g).bind fun q => (q.2.2[i]?).bind fun e => partA P t e off
    | _ => none
def resB (n : Nat) : ResultVar → Bool
  | .tmp t => t < n
  | .cell a _ => a < n
def oneOrTup : List AV → AV
  | [v] => v
  | vs => .tup vs
def cons2 (v : Option AV) (r : Option (List AV)) : Option (List AV) := v.bind fun v => r.map (v :: ·)
def rsG (P : Program) (f : AF) (h : AH) : List ResultVar → Option (List AV)
  | [] => some []
  | r :: rs => cons2 (resOne P f h r) (rsG P f h rs)
def notTup : AV → Bool
  | .tup _ => false
  | _ => true
/-- What may be told of an answer and of the objects that stay; objects below m stay where they stood, or have moved under a new generation. -/
def Fin (m : Nat) (r : AV) (h : AH) (K : AV → AH → Prop) : Prop :=
  ∃ r' h', K r' h' ∧ ∀ G φ M w u, Rep G φ M h w → VA φ M r u → ∃ φ' M', Rep G φ' M' h' w ∧ VA φ' M' r' u ∧ ∀ l p, l < m → φ l = some p → ∃ p', φ' l = some p' ∧ (p' = p ∨ p.g < p'.g)
def ARet (P : Program) (rs : List ResultVar) (m : Nat) (K : AV → AH → Prop) (f : AF) (h : AH) : Prop :=
  On (rsG P f h rs) fun vs => vs.all notTup = true ∧ Fin m (oneOrTup vs) h K
def fnB (fn : Func) : Bool := fn.results.all (resB fn.ntmps)
def frame0 (args : List AV) : AF := fun i => args.getD i undefA
def resSem (tmps : Array Value) : ResultVar → Sem Value
  | .tmp t => pure (tmps.getD t undef)
  | .cell b t => do loadVar t (← asAddr (tmps.getD b undef))
section
variable {P : Program} {G : Cx} {φ : Phi} {M : Im} {h : AH} {w : World} {n : Nat}
theorem nt_VA1 {v : AV} {u : Value} (hv : notTup v = true) (h : VA φ M v u) : VA1 φ M v u := by
  cases v with
  | tup _ => cases hv
  | one x => exact h
  | agg x => exact h
  | any => trivial
theorem run_res {f : AF} {a : Act} (R : Rep G φ M h w) (F : FOk n φ M f a) : ∀ (rs : List ResultVar) (vs : List AV), rs.all (resB n) = true → rsG P f h rs = some vs →
    ∃ us : List Value, (rs.mapM (resSem a.tmps)).run P w = .ok us w ∧ VAs φ M vs us
  | [], vs, _, hv => by simp [rsG] at hv; subst hv; exact ⟨[], rfl, rfl, fun j x hj => by simp at hj⟩
  | r :: rs, vs, hb, hv => by
    rw [rsG] at hv
    obtain ⟨v, h1, hv⟩ := Option.bind_eq_some_iff.1 hv
    obtain ⟨vs', h2, rfl⟩ := Option.map_eq_some_iff.1 hv
    rw [List.all_cons, Bool.and_eq_true] at hb
    obtain ⟨us, ih, hvs⟩ := run_res R F rs vs' hb.2 h2
    have hd : ∃ u, (resSem a.tmps r).run P w = .ok u w ∧ VA φ M v u := by
      cases r with
      | tmp t =>
        simp only [resOne, Option.some.injEq] at h1
        subst h1
        have ht : t < n := by simpa [resB] using hb.1
        obtain ⟨u, q1, q2⟩ := F.val t ht
        exact ⟨u, by simp [resSem, Array.getD_eq_getD_getElem?, q1], q2⟩
      | cell b t =>
        have hbn : b < n := by simpa [resB] using hb.1
        obtain ⟨u0, q1, q2⟩ := F.val b hbn
        simp only [resOne] at h1
        split at h1
        · rename_i l g i off hfb
          obtain ⟨q, hq, h1⟩ := Option.bind_eq_some_iff.1 h1
          obtain ⟨el, hel, h1⟩ := Option.bind_eq_some_iff.1 h1
          rw [hfb] at q2
          obtain ⟨p, hp, hg, hk, hvir, eu⟩ := pt_at R hq q2
          obtain ⟨p', hp', _, _, _, _, _, hcc⟩ := R.readR hq
          rw [hp] at hp'
          cases hp'
          obtain ⟨C, hC⟩ := choose_cells (hcc i el hel).2
          obtain ⟨u, hu, hr⟩ := run_loadVarA (P := P) (b := p.b) (o := i * q.2.1) h1 C (fun j y hj => (hC j y hj).2)
          have hr := hr w (fun j y hj => (hC j y hj).1)
          rw [← hk] at hr
          subst eu
          exact ⟨u, by simp [resSem, Array.getD_eq_getD_getElem?, q1, asAddr, hr], hu⟩
        · cases h1
    obtain ⟨u, hd, hu⟩ := hd
    refine ⟨u :: us, ?_, by simp [hvs.1], fun j x hj => ?_⟩
    · rw [List.mapM_cons]
      simp only [Sem.run_bind, hd, ih, Result.andThen_ok, Sem.run_pure]
    · rcases j with _ | j
      · simp at hj; subst hj; exact ⟨u, rfl, hu⟩
      · exact hvs.2 j x (by simpa using hj)
theorem one_V {vs : List AV} {us : List Value} (hnt : vs.all notTup = true) (H : VAs φ M vs us) : VA φ M (oneOrTup vs) (if h : us.toArray.size = 1 then us.toArray[0] else .tuple us.toArray) := by
  have tup : ∀ (vs : List AV) (us : List Value), vs.all notTup = true → VAs φ M vs us → VA φ M (.tup vs) (.tuple us.toArray) := fun vs us hnt H =>
    ⟨us, rfl, H.1, fun j x hj => let ⟨u, h1, h2⟩ := H.2 j x hj; ⟨u, h1, nt_VA1 ((List.all_eq_true.1 hnt) x (List.mem_of_getElem? hj)) h2⟩⟩
  match vs, us, H with
  | [], [], H => simpa [oneOrTup] using tup [] [] rfl H
  | [v], [u], H =>
    obtain ⟨u', h1, h2⟩ := H.2 0 v rfl
    simp at h1
    subst h1
    simpa [oneOrTup] using h2
  | v :: v2 :: r, u :: u2 :: s, H => simpa [oneOrTup] using tup _ _ hnt H
  | [], _ :: _, H => have := H.1; simp at this
  | _ :: _, [], H => have := H.1; simp at this
  | [_], _ :: _ :: _, H => have := H.1; simp at this
  | _ :: _ :: _, [_], H => have := H.1; simp at this
theorem frame0_ok {args : List AV} {us : List Value} (hn : args.length ≤ n) (H : VAs φ M args us) : FOk n φ M (frame0 args) { tmps := us.toArray ++ Array.replicate (n - us.toArray.size) undef, defers := [] } := by
  have hl := H.1
  refine ⟨by simp; omega, fun i hi => ?_, rfl⟩
  simp only [frame0]
  by_cases hia : i < args.length
  · obtain ⟨u, h1, h2⟩ := H.2 i _ (List.getElem?_eq_getElem hia)
    refine ⟨u, ?_, by simpa [List.getD, hia] using h2⟩
    rw [Array.getElem?_append_left (by simpa [hl] using hia)]
    simpa using h1
  · refine ⟨undef, ?_, ?_⟩
    · rw [Array.getElem?_append_right (by simp; omega), Array.getElem?_replicate, if_pos (by simp; omega)]
    · have : args.getD i undefA = undefA := by simp [List.getD, List.getElem?_eq_none (show args.length ≤ i by omega)]
      rw [this]
      rfl
theorem acall_gen {g : Nat} {fn : Func} {c : Code} {args : List AV} {K : AV → AH → Prop} (rs : List ResultVar) (hmo : P.follows .mixedOrders = true) (hf : P.funcs[g]? = some fn) (hrs : fn.results.toList = rs) (hbody : fn.body = some c) (hB : (codeB fn.ntmps c && fnB fn && hasBody P g && decide (args.length ≤ fn.ntmps)) = true)
    (H : ∀ Q : QT, Q.m = h.length → (∀ f h', GC h.length (ARet P rs h.length K) f h' → Q.q .ret f h' ∧ Q.q .normal f h') → goG P c [] Q (frame0 args) h) : ACalls P g args h K := by
  simp only [Bool.and_eq_true, decide_eq_true_eq] at hB
  obtain ⟨⟨⟨hB1, hB2⟩, hB3⟩, hB4⟩ := hB
  refine ⟨hB3, fun φ M w us R hargs => ?_⟩
  refine calls_of_wp hf hbody ?_
  have F := frame0_ok (φ := φ) (n := fn.ntmps) hB4 hargs
  have hdom : ∀ l p, φ l = some p → l < h.length := fun l p hl => by
    rcases Nat.lt_or_ge l h.length with q | q
    · exact q
    · rw [R.dom l q] at hl; cases hl
  have H1 := H ⟨h.length, fun e f h' => match e with | .ret => GC h.length (ARet P rs h.length K) f h' | .normal => GC h.length (ARet P rs h.length K) f h' | _ => False⟩ rfl (fun f h' hh => ⟨hh, hh⟩)
  refine wp_mono (awp_sound (φ0 := φ) (n := fn.ntmps) hmo hdom c hB1 _ _ h φ M _ w H1 R F (Le.refl _)) ?_
  intro e a' w' hq
  cases e with
  | ret =>
    obtain ⟨f', h', φ', M', hret, R', F', hle⟩ := St.ghost hdom hq
    obtain ⟨vs, hvs, hnt, r', h'', hk, hfin⟩ := hret.elim
    obtain ⟨us, hus, hvv⟩ := run_res (P := P) R' F' rs vs (by rw [← hrs]; simpa [fnB] using hB2) hvs
    obtain ⟨φ'', M'', R'', hv'', hkeep⟩ := hfin _ φ' M' w' _ R' (one_V hnt hvv)
    refine ⟨F'.defers, _, ?_, _, r', h'', φ'', M'', rfl, hv'', hk, R'', fun l p hl => ?_⟩
    · show ((do let vs ← fn.results.mapM (resSem a'.tmps); pure (if h : vs.size = 1 then vs[0] else .tuple vs)) : Sem Value).run P w' = _
      rw [Array.mapM_eq_mapM_toList, hrs]
      simp only [Sem.run_bind, Sem.run_map, hus, Result.andThen_ok, Sem.run_pure]
    · obtain ⟨p', q1, q2⟩ := hle l p hl
      obtain ⟨p'', q3, q4⟩ := hkeep l p' (hdom l p hl) q1
      refine ⟨p'', q3, ?_⟩
      rcases q2 with rfl | q2 <;> rcases q4 with rfl | q4
      · exact .inl rfl
      · exact .inr q4
      · exact .inr q2
      · exact .inr (Nat.lt_trans q2 q4)
  | normal =>
    obtain ⟨f', h', φ', M', hret, R', F', hle⟩ := St.ghost hdom hq
    obtain ⟨vs, hvs, hnt, r', h'', hk, hfin⟩ := hret.elim
    obtain ⟨us, hus, hvv⟩ := run_res (P := P) R' F' rs vs (by rw [← hrs]; simpa [fnB] using hB2) hvs
    obtain ⟨φ'', M'', R'', hv'', hkeep⟩ := hfin _ φ' M' w' _ R' (one_V hnt hvv)
    refine ⟨F'.defers, _, ?_, _, r', h'', φ'', M'', rfl, hv'', hk, R'', fun l p hl => ?_⟩
    · show ((do let vs ← fn.results.mapM (resSem a'.tmps); pure (if h : vs.size = 1 then vs[0] else .tuple vs)) : Sem Value).run P w' = _
      rw [Array.mapM_eq_mapM_toList, hrs]
      simp only [Sem.run_bind, Sem.run_map, hus, Result.andThen_ok, Sem.run_pure]
    · obtain ⟨p', q1, q2⟩ := hle l p hl
      obtain ⟨p'', q3, q4⟩ := hkeep l p' (hdom l p hl) q1
      refine ⟨p'', q3, ?_⟩
      rcases q2 with rfl | q2 <;> rcases q4 with rfl | q4
      · exact .inl rfl
      · exact .inr q4
      · exact .inr q2
      · exact .inr (Nat.lt_trans q2 q4)
  | exit id => obtain ⟨f', h', φ', M', hq, _⟩ := hq; exact hq.elim
  | _ => exact hq.elim
end
section
variable (P : Program) (f : AF) (h : AH) (s : List Fr) (Q : QT) (x y : Code)
theorem g_skip : goG P .skip s Q f h = nxG P .normal s Q f h := _root_.id rfl
theorem g_region (id : Nat) (ops : Array Oper) : goG P (.region id ops false) s Q f h = rgG P (dsts ops) ops.toList s Q f h := _root_.id rfl
theorem g_draw (id : Nat) (ops : Array Oper) : goG P (.region id ops true) s Q f h = dwG P ops s Q f h := _root_.id rfl
theorem g_seq : goG P (.seq x y) s Q f h = goG P x (.seq y :: s) Q f h := _root_.id rfl
theorem g_cond (c : Operand) : goG P (.cond c x y) s Q f h = cdG P (ev f c) x y s Q f h := _root_.id rfl
theorem g_block (id : Nat) : goG P (.block id x) s Q f h = goG P x (.blk id :: s) Q f h := _root_.id rfl
theorem g_loop : goG P (.loop x) s Q f h = lpG P x s Q f h := _root_.id rfl
theorem g_exit (id : Nat) : goG P (.exit id) s Q f h = nxG P (.exit id) s Q f h := _root_.id rfl
theorem g_ret : goG P .ret s Q f h = nxG P .ret s Q f h := _root_.id rfl
theorem n_nil (e : AExit) : nxG P e [] Q f h = Q.q e f h := _root_.id rfl
theorem n_seq (c : Code) : nxG P .normal (.seq c :: s) Q f h = goG P c s Q f h := _root_.id rfl
theorem n_seq_e (c : Code) (id : Nat) : nxG P (.exit id) (.seq c :: s) Q f h = nxG P (.exit id) s Q f h := _root_.id rfl
theorem n_seq_r (c : Code) : nxG P .ret (.seq c :: s) Q f h = nxG P .ret s Q f h := _root_.id rfl
theorem n_inv (J : AF → AH → Prop) : nxG P .normal (.inv J :: s) Q f h = GC Q.m J f h := _root_.id rfl
theorem n_jn (J : AF → AH → Prop) : nxG P .normal (.jn J :: s) Q f h = J f h := _root_.id rfl
theorem n_jn_e (J : AF → AH → Prop) (id : Nat) : nxG P (.exit id) (.jn J :: s) Q f h = nxG P (.exit id) s Q f h := _root_.id rfl
theorem n_jn_r (J : AF → AH → Prop) : nxG P .ret (.jn J :: s) Q f h = nxG P .ret s Q f h := _root_.id rfl
theorem n_inv_e (J : AF → AH → Prop) (id : Nat) : nxG P (.exit id) (.inv J :: s) Q f h = nxG P (.exit id) s Q f h := _root_.id rfl
theorem n_inv_r (J : AF → AH → Prop) : nxG P .ret (.inv J :: s) Q f h = nxG P .ret s Q f h := _root_.id rfl
theorem n_blk (id : Nat) : nxG P .normal (.blk id :: s) Q f h = nxG P .normal s Q f h := _root_.id rfl
theorem n_blk_r (id : Nat) : nxG P .ret (.blk id :: s) Q f h = nxG P .ret s Q f h := _root_.id rfl
theorem n_blk_e (id : Nat) : nxG P (.exit id) (.blk id :: s) Q f h = nxG P .normal s Q f h := by simp [nxG, ks, AExit.inBlock]
theorem n_blk_ne (id id' : Nat) (hne : (id' == id) = false) : nxG P (.exit id') (.blk id :: s) Q f h = nxG P (.exit id') s Q f h := by simp only [beq_eq_false_iff_ne] at hne; simp [nxG, ks, AExit.inBlock, hne]
theorem c_true : cdG P (.one (.c (.bool true))) x y s Q f h = goG P x s Q f h := _root_.id rfl
theorem c_false : cdG P (.one (.c (.bool false))) x y s Q f h = goG P y s Q f h := _root_.id rfl
theorem r_nil (ds : DS) : rgG P ds [] s Q f h = nxG P .normal s Q f h := _root_.id rfl
theorem r_cons (ds : DS) (r : List Oper) (dst : Option Nat) (op : Op) (ty : TypeId) (pos : String) (af : Array Edge) : rgG P ds (⟨dst, op, ty, pos, af, none⟩ :: r) s Q f h = opG P op f h (.sq ds dst r s Q f) := (aop2_same P op f h (kr P (.sq ds dst r s Q f))).symm
theorem r_want (ds : DS) (r : List Oper) (dst : Option Nat) (op : Op) (ty : TypeId) (pos : String) (af : Array Edge) (j : Nat) (t : Bool) : rgG P ds (⟨dst, op, ty, pos, af, some (j, t)⟩ :: r) s Q f h = wtG P (gslot ds f j) t op f h (.sq ds dst r s Q f) := by
  have e : opG P op f h (.sq ds dst r s Q f) = aop P op f h (kr P (.sq ds dst r s Q f)) := aop2_same P op f h (kr P (.sq ds dst r s Q f))
  unfold wtG; rw [e]; rfl
theorem w_tt (op : Op) (k : Ko) : wtG P (.one (.c (.bool true))) true op f h k = opG P op f h k := _root_.id rfl
theorem w_ff (op : Op) (k : Ko) : wtG P (.one (.c (.bool false))) false op f h k = opG P op f h k := _root_.id rfl
theorem w_tf (op : Op) (k : Ko) : wtG P (.one (.c (.bool true))) false op f h k = kr0 P k h := _root_.id rfl
theorem w_ft (op : Op) (k : Ko) : wtG P (.one (.c (.bool false))) true op f h k = kr0 P k h := _root_.id rfl
theorem wantB_u (t : Bool) (x y : Unit → Prop) : wantB undefA t x y = y () := by
  unfold wantB undefA
  exact propext ⟨fun q => q.2, fun q => ⟨rfl, q⟩⟩
theorem w_u (t : Bool) (op : Op) (k : Ko) : wtG P undefA t op f h k = kr0 P k h := wantB_u _ _ _
theorem k0_some (ds : DS) (d : Nat) (r : List Oper) (f' : AF) : kr0 P (.sq ds (some d) r s Q f') h = rgG P ds r s Q (upd f' d undefA) h := _root_.id rfl
theorem k0_none (ds : DS) (r : List Oper) (f' : AF) : kr0 P (.sq ds none r s Q f') h = rgG P ds r s Q f' h := _root_.id rfl
theorem ds_mk (l : List Oper) : dsts l.toArray = l.map (·.dst) := _root_.id rfl
def gsl (o : Option (Option Nat)) (f : AF) : AV := match o with | some (some d) => f d | _ => undefA
theorem gs_at (ds : DS) (j : Nat) : gslot ds f j = gsl ds[j]? f := _root_.id rfl
theorem gs_some (d : Nat) : gsl (some (some d)) f = f d := _root_.id rfl
theorem k_some (ds : DS) (d : Nat) (r : List Oper) (f' : AF) (v : AV) : kr P (.sq ds (some d) r s Q f') v h = rgG P ds r s Q (upd f' d v) h := _root_.id rfl
theorem k_none (ds : DS) (r : List Oper) (f' : AF) (v : AV) : kr P (.sq ds none r s Q f') v h = rgG P ds r s Q f' h := _root_.id rfl
/-- What was loaded first still stands. -/
def heldOk (b : Bool) (op : Op) (f : AF) (h : AH) (pr : List (Nat × Option AO)) : Prop := b = true ∨ ∀ p ∈ pr, prOk op f h p
def heldOk0 (b : Bool) (h : AH) (pr : List (Nat × Option AO)) : Prop := b = true ∨ ∀ p ∈ pr, prOk0 h p
theorem ho_t (op : Op) (pr : List (Nat × Option AO)) : heldOk true op f h pr = True := by simp [heldOk]
theorem ho_nil (b : Bool) (op : Op) : heldOk b op f h [] = True := by simp [heldOk]
theorem ho_s (op : Op) (l : Nat) (pr : List (Nat × Option AO)) : heldOk false op f h ((l, none) :: pr) = (touchA op f l = false ∧ heldOk false op f h pr) := by simp [heldOk, prOk]
theorem ho_w (op : Op) (l : Nat) (o : AO) (pr : List (Nat × Option AO)) : heldOk false op f h ((l, some o) :: pr) = (h[l]? = some o ∧ heldOk false op f h pr) := by simp [heldOk, prOk]
theorem ho0_t (pr : List (Nat × Option AO)) : heldOk0 true h pr = True := by simp [heldOk0]
theorem ho0_nil (b : Bool) : heldOk0 b h [] = True := by simp [heldOk0]
theorem ho0_s (l : Nat) (pr : List (Nat × Option AO)) : heldOk0 false h ((l, none) :: pr) = heldOk0 false h pr := by simp [heldOk0, prOk0]
theorem ho0_w (l : Nat) (o : AO) (pr : List (Nat × Option AO)) : heldOk0 false h ((l, some o) :: pr) = (h[l]? = some o ∧ heldOk0 false h pr) := by simp [heldOk0, prOk0]
theorem kl_some (ds : DS) (d : Nat) (r : List Oper) (f' : AF) (v : AV) : krl P (.sq ds (some d) r s Q f') v h = rgG P ds r s Q (upd f' d v) h := _root_.id rfl
theorem kl_none (ds : DS) (r : List Oper) (f' : AF) (v : AV) : krl P (.sq ds none r s Q f') v h = rgG P ds r s Q f' h := _root_.id rfl
theorem kl_dr (ds : DS) (ops : Array Oper) (d : Nat) (op : Op) (L : List (Nat × Bool × Bool)) (sy : Bool) (f' : AF) (pr : List (Nat × Option AO)) (v : AV) : krl P (.dr ds ops (some d) op L sy s Q f' pr) v h = (heldOk0 (sy && allSy L) h pr ∧ drG P ds ops L s Q (upd f' d v) h pr) := _root_.id rfl
theorem kl_dr_none (ds : DS) (ops : Array Oper) (op : Op) (L : List (Nat × Bool × Bool)) (sy : Bool) (f' : AF) (pr : List (Nat × Option AO)) (v : AV) : krl P (.dr ds ops none op L sy s Q f' pr) v h = (heldOk0 (sy && allSy L) h pr ∧ drG P ds ops L s Q f' h pr) := _root_.id rfl
def heldOkF (b : Bool) (q : List Nat) (h : AH) (pr : List (Nat × Option AO)) : Prop := b = true ∨ ∀ p ∈ pr, prOkF q h p
theorem hof_t (q : List Nat) (pr : List (Nat × Option AO)) : heldOkF true q h pr = True := by simp [heldOkF]
theorem hof_nil (b : Bool) (q : List Nat) : heldOkF b q h [] = True := by simp [heldOkF]
def inQ (l : Nat) (q : List Nat) : Bool := decide (l ∈ q)
theorem inq_nil (l : Nat) : inQ l [] = false := by simp [inQ]
theorem inq_cons (l a : Nat) (q : List Nat) : inQ l (a :: q) = (l == a || inQ l q) := by simp [inQ]; rfl
theorem hof_s (q : List Nat) (l : Nat) (pr : List (Nat × Option AO)) : heldOkF false q h ((l, none) :: pr) = (inQ l q = false ∧ heldOkF false q h pr) := by simp [heldOkF, prOkF, inQ]
theorem hof_w (q : List Nat) (l : Nat) (o : AO) (pr : List (Nat × Option AO)) : heldOkF false q h ((l, some o) :: pr) = (h[l]? = some o ∧ heldOkF false q h pr) := by simp [heldOkF, prOkF]
theorem kf_some (ds : DS) (d : Nat) (r : List Oper) (f' : AF) (q : List Nat) (v : AV) : krf P (.sq ds (some d) r s Q f') q v h = rgG P ds r s Q (upd f' d v) h := _root_.id rfl
theorem kf_none (ds : DS) (r : List Oper) (f' : AF) (q : List Nat) (v : AV) : krf P (.sq ds none r s Q f') q v h = rgG P ds r s Q f' h := _root_.id rfl
theorem kf_dr (ds : DS) (ops : Array Oper) (d : Nat) (op : Op) (L : List (Nat × Bool × Bool)) (sy : Bool) (f' : AF) (pr : List (Nat × Option AO)) (q : List Nat) (v : AV) : krf P (.dr ds ops (some d) op L sy s Q f' pr) q v h = (heldOkF (sy && allSy L) q h pr ∧ drG P ds ops L s Q (upd f' d v) h pr) := _root_.id rfl
theorem kf_dr_none (ds : DS) (ops : Array Oper) (op : Op) (L : List (Nat × Bool × Bool)) (sy : Bool) (f' : AF) (pr : List (Nat × Option AO)) (q : List Nat) (v : AV) : krf P (.dr ds ops none op L sy s Q f' pr) q v h = (heldOkF (sy && allSy L) q h pr ∧ drG P ds ops L s Q f' h pr) := _root_.id rfl
theorem k_dr (ds : DS) (ops : Array Oper) (d : Nat) (op : Op) (L : List (Nat × Bool × Bool)) (sy : Bool) (f' : AF) (pr : List (Nat × Option AO)) (v : AV) : kr P (.dr ds ops (some d) op L sy s Q f' pr) v h = (heldOk (sy && allSy L) op f' h pr ∧ drG P ds ops L s Q (upd f' d v) h pr) := _root_.id rfl
theorem k_dr_none (ds : DS) (ops : Array Oper) (op : Op) (L : List (Nat × Bool × Bool)) (sy : Bool) (f' : AF) (pr : List (Nat × Option AO)) (v : AV) : kr P (.dr ds ops none op L sy s Q f' pr) v h = (heldOk (sy && allSy L) op f' h pr ∧ drG P ds ops L s Q f' h pr) := _root_.id rfl
theorem k0_dr (ds : DS) (ops : Array Oper) (d : Nat) (op : Op) (L : List (Nat × Bool × Bool)) (sy : Bool) (f' : AF) (pr : List (Nat × Option AO)) : kr0 P (.dr ds ops (some d) op L sy s Q f' pr) h = (heldOk0 (sy && allSy L) h pr ∧ drG P ds ops L s Q (upd f' d undefA) h pr) := _root_.id rfl
theorem k0_dr_none (ds : DS) (ops : Array Oper) (op : Op) (L : List (Nat × Bool × Bool)) (sy : Bool) (f' : AF) (pr : List (Nat × Option AO)) : kr0 P (.dr ds ops none op L sy s Q f' pr) h = (heldOk0 (sy && allSy L) h pr ∧ drG P ds ops L s Q f' h pr) := _root_.id rfl
theorem as_nil : allSy [] = true := _root_.id rfl
theorem as_cons (i : Nat) (tk sy : Bool) (r : List (Nat × Bool × Bool)) : allSy ((i, tk, sy) :: r) = ((tk || sy) && allSy r) := _root_.id rfl
def touchV : AV → Nat → Bool := toVal
theorem tc_store (t : TypeId) (a x : Operand) (l : Nat) : touchA (.store t a x) f l = touchV (ev f a) l := _root_.id rfl
def touchC (g : AV) (args : List AV) : Bool := match g with | .one (.clo _ caps) => !((args ++ caps.map fun l => AV.one (.pt l 0 0 0)).all clA) | _ => true
theorem tc_call (g : Operand) (args : Array Operand) (ts : Array TypeId) (l : Nat) : touchA (.call { callee := .value g, args := args, argTypes := ts }) f l = touchC (ev f g) (args.toList.map (ev f)) := _root_.id rfl
theorem tcc (g : Nat) (args : List AV) : touchC (.one (.clo g [])) args = !(args.all clA) := by simp [touchC]
theorem tc_append (x y : Operand) (ts : Array TypeId) (l : Nat) : touchA (.call { callee := .builtin .append, args := #[x, y], argTypes := ts }) f l = touchV (ev f x) l := _root_.id rfl
theorem tc_pt (l g i off j : Nat) : touchV (.one (.pt l g i off)) j = (j == l) := _root_.id rfl
theorem tc_sl (l g off len j : Nat) : touchV (.one (.sl l g off len)) j = (j == l) := _root_.id rfl
theorem tc_nl (j : Nat) : touchV (.one .nl) j = false := _root_.id rfl
theorem tc_box (t : TypeId) (x : Operand) (l : Nat) : touchA (.box t x) f l = false := _root_.id rfl
theorem tc_alloc (t : TypeId) (l : Nat) : touchA (.alloc t) f l = false := _root_.id rfl
theorem tc_build (t : TypeId) (ps : Array (Nat × Operand)) (l : Nat) : touchA (.build t ps) f l = false := _root_.id rfl
theorem tc_load (t : TypeId) (a : Operand) (l : Nat) : touchA (.load t a) f l = false := _root_.id rfl
theorem tc_bin (op : BinOp) (t : TypeId) (x y : Operand) (t2 : TypeId) (l : Nat) : touchA (.binOp op t x y t2) f l = false := _root_.id rfl
theorem tc_slice (t : TypeId) (x : Operand) (lo hi mx : Option Operand) (l : Nat) : touchA (.slice t x lo hi mx) f l = false := _root_.id rfl
theorem tc_convert (s d : TypeId) (x : Operand) (l : Nat) : touchA (.convert s d x) f l = false := _root_.id rfl
theorem tc_buildSlice (t : TypeId) (n : Nat) (ps : Array (Nat × Operand)) (l : Nat) : touchA (.buildSlice t n ps) f l = false := _root_.id rfl
theorem tc_makeFunc (fn : Fn) (a b : Array Operand) (l : Nat) : touchA (.makeFunc fn a b) f l = false := _root_.id rfl
theorem tc_index (t : TypeId) (x y : Operand) (l : Nat) : touchA (.index t x y) f l = false := _root_.id rfl
theorem tc_indexAddr (t : TypeId) (x y : Operand) (l : Nat) : touchA (.indexAddr t x y) f l = false := _root_.id rfl
theorem tc_fieldAddr (t : TypeId) (x : Operand) (i l : Nat) : touchA (.fieldAddr t x i) f l = false := _root_.id rfl
theorem tc_field (t : TypeId) (x : Operand) (i l : Nat) : touchA (.field t x i) f l = false := _root_.id rfl
theorem tc_pick (c a b : Operand) (l : Nat) : touchA (.pick c a b) f l = false := _root_.id rfl
theorem tc_move (x : Operand) (l : Nat) : touchA (.move x) f l = false := _root_.id rfl
theorem tc_assign (x : Operand) (l : Nat) : touchA (.assign x) f l = false := _root_.id rfl
theorem tc_makeSlice (t : TypeId) (x y : Operand) (l : Nat) : touchA (.makeSlice t x y) f l = false := _root_.id rfl
theorem tc_nilCheck (x : Operand) (l : Nat) : touchA (.nilCheck x) f l = false := _root_.id rfl
theorem tc_len (as : Array Operand) (ts : Array TypeId) (l : Nat) : touchA (.call { callee := .builtin .len, args := as, argTypes := ts }) f l = false := _root_.id rfl
theorem tc_min (as : Array Operand) (ts : Array TypeId) (l : Nat) : touchA (.call { callee := .builtin .min, args := as, argTypes := ts }) f l = false := _root_.id rfl
theorem tc_max (as : Array Operand) (ts : Array TypeId) (l : Nat) : touchA (.call { callee := .builtin .max, args := as, argTypes := ts }) f l = false := _root_.id rfl
theorem tc_un (op : UnOp) (t : TypeId) (x : Operand) (l : Nat) : touchA (.unOp op t x) f l = false := _root_.id rfl
theorem tc_extract (x : Operand) (i l : Nat) : touchA (.extract x i) f l = false := _root_.id rfl
theorem cl_c (v : Value) : clA (.one (.c v)) = true := _root_.id rfl
theorem cl_im (es : List (List CV)) : clA (.one (.im es)) = true := _root_.id rfl
theorem cl_nl : clA (.one .nl) = true := _root_.id rfl
theorem cl_emp : clA (.one .emp) = true := _root_.id rfl
theorem cl_clo (g : Nat) : clA (.one (.clo g [])) = true := _root_.id rfl
theorem cl_agg (xs : List CV) : clA (.agg xs) = xs.all clB := _root_.id rfl
theorem clb_c (v : Value) : clB (.c v) = true := _root_.id rfl
theorem clb_im (es : List (List CV)) : clB (.im es) = true := _root_.id rfl
theorem clb_nl : clB .nl = true := _root_.id rfl
theorem clb_emp : clB .emp = true := _root_.id rfl
theorem clb_clo (g : Nat) : clB (.clo g []) = true := _root_.id rfl
theorem u_eq (d : Nat) (v : AV) : upd f d v d = v := by simp [upd]
theorem u_ne (d i : Nat) (v : AV) (hne : (i == d) = false) : upd f d v i = f i := by simp only [beq_eq_false_iff_ne] at hne; simp [upd, hne]
theorem e_tmp (t : Nat) : ev f (.tmp t) = f t := _root_.id rfl
theorem e_const (v : Value) : ev f (.const v) = ofVal v := _root_.id rfl
theorem e_func (g : Nat) : ev f (.func g) = .one (.clo g []) := _root_.id rfl
theorem v_int (k : IntKind) (n : Int) : ofVal (.int k n) = .one (.c (.int k n)) := _root_.id rfl
theorem v_bool (b : Bool) : ofVal (.bool b) = .one (.c (.bool b)) := _root_.id rfl
theorem v_string (s : ByteArray) : ofVal (.string s) = .one (.c (.string s)) := _root_.id rfl
theorem v_nil : ofVal (.slice none 0 0) = .one .nl := _root_.id rfl
theorem v_nilFunc : ofVal .nilFunc = .one (.c .nilFunc) := _root_.id rfl
theorem v_nilIface : ofVal .nilIface = .one (.c .nilIface) := _root_.id rfl
theorem f_zero (v : AV) (r : List AV) : frame0 (v :: r) 0 = v := _root_.id rfl
theorem f_succ (v : AV) (r : List AV) (i : Nat) : frame0 (v :: r) (i + 1) = frame0 r i := _root_.id rfl
theorem On_some {α : Type} (v : α) (K : α → Prop) : On (some v) K = K v := _root_.id rfl
variable {P f h s Q x y}
theorem c_split {b : Bool} (h1 : b = true → goG P x s Q f h) (h2 : b = false → goG P y s Q f h) : cdG P (.one (.c (.bool b))) x y s Q f h := by cases b; exact h2 rfl; exact h1 rfl
theorem w_split {b t : Bool} {op : Op} {k : Ko} (h1 : b = true → wtG P (.one (.c (.bool true))) t op f h k) (h2 : b = false → wtG P (.one (.c (.bool false))) t op f h k) : wtG P (.one (.c (.bool b))) t op f h k := by cases b; exact h2 rfl; exact h1 rfl
theorem loop_at {b : Code} (I : Nat → AF → AH → Prop) (k : Nat) (h0 : GC Q.m (I k) f h) (hr : ∀ k f h (J : AF → AH → Prop), (∀ k' f' h', k' < k → I k' f' h' → J f' h') → I k f h → goG P b (.inv J :: s) Q f h) : lpG P b s Q f h := by
  refine ⟨I, k, h0, fun k f h hI => ?_⟩
  exact hr k f h (fun f' h' => ∃ k', k' < k ∧ I k' f' h') (fun k' f' h' hk hi => ⟨k', hk, hi⟩) hI
theorem draw_at {ops : Array Oper} (m d : Nat) (hd : (ops[m]?).bind (·.dst) = some d) (L : List (Nat × Bool × Bool)) (hL : schedOk ops L = true) (H : drG P (dsts ops) ops L s Q f h []) : dwG P ops s Q f h := ⟨L, hL, H⟩
end
end Go.BL
