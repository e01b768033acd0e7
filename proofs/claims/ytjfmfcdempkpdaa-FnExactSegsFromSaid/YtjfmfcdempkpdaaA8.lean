/- The weakest precondition written out step by step, with what comes behind kept as data; what functions hand back. Conditions: none. -/
import Derived.Test.YtjfmfcdempkpdaaA7
namespace Go.AL
open Go.RowKit
set_option linter.unusedVariables false
set_option linter.unusedSimpArgs false

/-! ### 1. What comes behind, as data -/
abbrev QT := AExit → AF → AH → Prop
inductive Fr where
  | seq (c : Code)
  | blk (id : Nat)
  | inv (J : AF → AH → Prop)
def ks (P : Program) : List Fr → QT → QT
  | [], Q => Q
  | .seq c :: s, Q => AExit.then (fun f h => awp P c (ks P s Q) f h) (ks P s Q)
  | .blk id :: s, Q => AExit.inBlock id (ks P s Q)
  | .inv J :: s, Q => AExit.then J (ks P s Q)
inductive Ko where
  | sq (ds : DS) (dst : Option Nat) (rest : List Oper) (s : List Fr) (Q : QT) (f : AF)
  | dr (ds : DS) (ops : Array Oper) (dst : Option Nat) (L : List (Nat × Bool × Bool)) (sy : Bool) (s : List Fr) (Q : QT) (f : AF) (pr : List (Nat × AO))
def kr (P : Program) : Ko → AV → AH → Prop
  | .sq ds dst rest s Q f, v, h => aops P ds rest (ks P s Q .normal) (put f dst v) h
  | .dr ds ops dst L sy s Q f pr, v, h => (sy = true ∨ ∀ p ∈ pr, h[p.1]? = some p.2) ∧ adraw P ds ops L (ks P s Q .normal) (put f dst v) h pr
def goG (P : Program) (c : Code) (s : List Fr) (Q : QT) (f : AF) (h : AH) : Prop := awp P c (ks P s Q) f h
def nxG (P : Program) (e : AExit) (s : List Fr) (Q : QT) (f : AF) (h : AH) : Prop := ks P s Q e f h
def rgG (P : Program) (ds : DS) (l : List Oper) (s : List Fr) (Q : QT) (f : AF) (h : AH) : Prop := aops P ds l (ks P s Q .normal) f h
def dwG (P : Program) (ops : Array Oper) (s : List Fr) (Q : QT) (f : AF) (h : AH) : Prop := ∃ L, schedOk ops L = true ∧ adraw P (dsts ops) ops L (ks P s Q .normal) f h []
def drG (P : Program) (ds : DS) (ops : Array Oper) (L : List (Nat × Bool × Bool)) (s : List Fr) (Q : QT) (f : AF) (h : AH) (pr : List (Nat × AO)) : Prop := adraw P ds ops L (ks P s Q .normal) f h pr
def lpG (P : Program) (b : Code) (s : List Fr) (Q : QT) (f : AF) (h : AH) : Prop := awp P (.loop b) (ks P s Q) f h
def cdG (P : Program) (v : AV) (x y : Code) (s : List Fr) (Q : QT) (f : AF) (h : AH) : Prop := match v with | .one (.c (.bool b)) => Br b (fun _ => goG P x s Q f h) (fun _ => goG P y s Q f h) | _ => False
def opG (P : Program) (op : Op) (f : AF) (h : AH) (k : Ko) : Prop := aop P op f h (kr P k)
def wtG (P : Program) (v : AV) (t : Bool) (op : Op) (f : AF) (h : AH) (k : Ko) : Prop := wantB v t (fun _ => aop P op f h (kr P k)) (fun _ => kr P k undefA h)
section
variable (P : Program) (f : AF) (h : AH) (s : List Fr) (Q : QT) (x y : Code)
theorem g_skip : goG P .skip s Q f h = nxG P .normal s Q f h := _root_.id rfl
theorem g_region (id : Nat) (ops : Array Oper) : goG P (.region id ops false) s Q f h = rgG P (dsts ops) ops.toList s Q f h := _root_.id rfl
theorem g_draw (id : Nat) (ops : Array Oper) : goG P (.region id ops true) s Q f h = dwG P ops s Q f h := _root_.id rfl
theorem g_seq : goG P (.seq x y) s Q f h = goG P x (.seq y :: s) Q f h := _root_.id rfl
theorem g_cond (c : Operand) : goG P (.cond c x y) s Q f h = cdG P (ev f c) x y s Q f h := _root_.id rfl
theorem g_block (id : Nat) : goG P (.block id x) s Q f h = goG P x (.blk id :: s) Q f h := _root_.id rfl
theorem g_loop : goG P (.loop x) s Q f h = lpG P x s Q f h := _root_.id rfl
theorem g_exit (id : Nat) : goG P (.exit id) s Q f h = nxG P (.exit id) s Q f h := _root_.id rfl
theorem g_ret : goG P .ret s Q f h = nxG P .ret s Q f h := _root_.id rfl
theorem n_nil (e : AExit) : nxG P e [] Q f h = Q e f h := _root_.id rfl
theorem n_seq (c : Code) : nxG P .normal (.seq c :: s) Q f h = goG P c s Q f h := _root_.id rfl
theorem n_seq_e (c : Code) (id : Nat) : nxG P (.exit id) (.seq c :: s) Q f h = nxG P (.exit id) s Q f h := _root_.id rfl
theorem n_seq_r (c : Code) : nxG P .ret (.seq c :: s) Q f h = nxG P .ret s Q f h := _root_.id rfl
theorem n_inv (J : AF → AH → Prop) : nxG P .normal (.inv J :: s) Q f h = J f h := _root_.id rfl
theorem n_inv_e (J : AF → AH → Prop) (id : Nat) : nxG P (.exit id) (.inv J :: s) Q f h = nxG P (.exit id) s Q f h := _root_.id rfl
theorem n_inv_r (J : AF → AH → Prop) : nxG P .ret (.inv J :: s) Q f h = nxG P .ret s Q f h := _root_.id rfl
theorem n_blk (id : Nat) : nxG P .normal (.blk id :: s) Q f h = nxG P .normal s Q f h := _root_.id rfl
theorem n_blk_r (id : Nat) : nxG P .ret (.blk id :: s) Q f h = nxG P .ret s Q f h := _root_.id rfl
theorem n_blk_e (id : Nat) : nxG P (.exit id) (.blk id :: s) Q f h = nxG P .normal s Q f h := by simp [nxG, ks, AExit.inBlock]
theorem n_blk_ne (id id' : Nat) (hne : (id' == id) = false) : nxG P (.exit id') (.blk id :: s) Q f h = nxG P (.exit id') s Q f h := by simp only [beq_eq_false_iff_ne] at hne; simp [nxG, ks, AExit.inBlock, hne]
theorem c_true : cdG P (.one (.c (.bool true))) x y s Q f h = goG P x s Q f h := _root_.id rfl
theorem c_false : cdG P (.one (.c (.bool false))) x y s Q f h = goG P y s Q f h := _root_.id rfl
theorem r_nil (ds : DS) : rgG P ds [] s Q f h = nxG P .normal s Q f h := _root_.id rfl
theorem r_cons (ds : DS) (r : List Oper) (dst : Option Nat) (op : Op) (ty : TypeId) (pos : String) (af : Array Edge) : rgG P ds (⟨dst, op, ty, pos, af, none⟩ :: r) s Q f h = opG P op f h (.sq ds dst r s Q f) := _root_.id rfl
theorem r_want (ds : DS) (r : List Oper) (dst : Option Nat) (op : Op) (ty : TypeId) (pos : String) (af : Array Edge) (j : Nat) (t : Bool) : rgG P ds (⟨dst, op, ty, pos, af, some (j, t)⟩ :: r) s Q f h = wtG P (gslot ds f j) t op f h (.sq ds dst r s Q f) := _root_.id rfl
theorem w_tt (op : Op) (k : Ko) : wtG P (.one (.c (.bool true))) true op f h k = opG P op f h k := _root_.id rfl
theorem w_ff (op : Op) (k : Ko) : wtG P (.one (.c (.bool false))) false op f h k = opG P op f h k := _root_.id rfl
theorem w_tf (op : Op) (k : Ko) : wtG P (.one (.c (.bool true))) false op f h k = kr P k undefA h := _root_.id rfl
theorem w_ft (op : Op) (k : Ko) : wtG P (.one (.c (.bool false))) true op f h k = kr P k undefA h := _root_.id rfl
theorem w_u (t : Bool) (op : Op) (k : Ko) : wtG P undefA t op f h k = kr P k undefA h := by unfold wtG wantB undefA; rfl
theorem ds_mk (l : List Oper) : dsts l.toArray = l.map (·.dst) := _root_.id rfl
def gsl (o : Option (Option Nat)) (f : AF) : AV := match o with | some (some d) => f d | _ => undefA
theorem gs_at (ds : DS) (j : Nat) : gslot ds f j = gsl ds[j]? f := _root_.id rfl
theorem gs_some (d : Nat) : gsl (some (some d)) f = f d := _root_.id rfl
theorem k_some (ds : DS) (d : Nat) (r : List Oper) (f' : AF) (v : AV) : kr P (.sq ds (some d) r s Q f') v h = rgG P ds r s Q (upd f' d v) h := _root_.id rfl
theorem k_none (ds : DS) (r : List Oper) (f' : AF) (v : AV) : kr P (.sq ds none r s Q f') v h = rgG P ds r s Q f' h := _root_.id rfl
theorem k_dr (ds : DS) (ops : Array Oper) (d : Nat) (L : List (Nat × Bool × Bool)) (f' : AF) (pr : List (Nat × AO)) (v : AV) : kr P (.dr ds ops (some d) L true s Q f' pr) v h = drG P ds ops L s Q (upd f' d v) h pr := by simp only [kr, put, drG, true_or, true_and]
theorem k_dr_none (ds : DS) (ops : Array Oper) (L : List (Nat × Bool × Bool)) (f' : AF) (pr : List (Nat × AO)) (v : AV) : kr P (.dr ds ops none L true s Q f' pr) v h = drG P ds ops L s Q f' h pr := by simp only [kr, put, drG, true_or, true_and]
theorem k_dr_p (ds : DS) (ops : Array Oper) (d : Nat) (L : List (Nat × Bool × Bool)) (f' : AF) (pr : List (Nat × AO)) (v : AV) : kr P (.dr ds ops (some d) L false s Q f' pr) v h = ((∀ p ∈ pr, h[p.1]? = some p.2) ∧ drG P ds ops L s Q (upd f' d v) h pr) := by simp only [kr, put, drG, Bool.false_eq_true, false_or]
theorem k_dr_pn (ds : DS) (ops : Array Oper) (L : List (Nat × Bool × Bool)) (f' : AF) (pr : List (Nat × AO)) (v : AV) : kr P (.dr ds ops none L false s Q f' pr) v h = ((∀ p ∈ pr, h[p.1]? = some p.2) ∧ drG P ds ops L s Q f' h pr) := by simp only [kr, put, drG, Bool.false_eq_true, false_or]
theorem u_eq (d : Nat) (v : AV) : upd f d v d = v := by simp [upd]
theorem u_ne (d i : Nat) (v : AV) (hne : (i == d) = false) : upd f d v i = f i := by simp only [beq_eq_false_iff_ne] at hne; simp [upd, hne]
theorem e_tmp (t : Nat) : ev f (.tmp t) = f t := _root_.id rfl
theorem e_const (v : Value) : ev f (.const v) = ofVal v := _root_.id rfl
theorem e_func (g : Nat) : ev f (.func g) = .one (.clo g []) := _root_.id rfl
theorem v_int (k : IntKind) (n : Int) : ofVal (.int k n) = .one (.c (.int k n)) := _root_.id rfl
theorem v_bool (b : Bool) : ofVal (.bool b) = .one (.c (.bool b)) := _root_.id rfl
theorem v_string (s : ByteArray) : ofVal (.string s) = .one (.c (.string s)) := _root_.id rfl
theorem v_slice (a : Option Addr) (n c : Nat) : ofVal (.slice a n c) = .one (.c (.slice a n c)) := _root_.id rfl
theorem f_zero (v : AV) (r : List AV) : frame0 (v :: r) 0 = v := _root_.id rfl
theorem f_succ (v : AV) (r : List AV) (i : Nat) : frame0 (v :: r) (i + 1) = frame0 r i := _root_.id rfl
theorem On_some {α : Type} (v : α) (K : α → Prop) : On (some v) K = K v := _root_.id rfl
variable {P f h s Q x y}
theorem c_split {b : Bool} (h1 : b = true → goG P x s Q f h) (h2 : b = false → goG P y s Q f h) : cdG P (.one (.c (.bool b))) x y s Q f h := by cases b; exact h2 rfl; exact h1 rfl
theorem w_split {b t : Bool} {op : Op} {k : Ko} (h1 : b = true → wtG P (.one (.c (.bool true))) t op f h k) (h2 : b = false → wtG P (.one (.c (.bool false))) t op f h k) : wtG P (.one (.c (.bool b))) t op f h k := by cases b; exact h2 rfl; exact h1 rfl
theorem loop_at {b : Code} (I : Nat → AF → AH → Prop) (k : Nat) (h0 : I k f h) (hr : ∀ k f h (J : AF → AH → Prop), (∀ k' f' h', k' < k → I k' f' h' → J f' h') → I k f h → goG P b (.inv J :: s) Q f h) : lpG P b s Q f h := by
  refine ⟨I, k, h0, fun k f h hI => ?_⟩
  exact hr k f h (fun f' h' => ∃ k', k' < k ∧ I k' f' h') (fun k' f' h' hk hi => ⟨k', hk, hi⟩) hI
theorem draw_at {ops : Array Oper} (m d : Nat) (hd : (ops[m]?).bind (·.dst) = some d) (L : List (Nat × Bool × Bool)) (hL : schedOk ops L = true) (H : drG P (dsts ops) ops L s Q f h []) : dwG P ops s Q f h := ⟨L, hL, H⟩
end
end Go.AL
