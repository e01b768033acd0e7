/- One operation after another, as rewriting steps over known values. Conditions: none. -/
import Derived.Test.YtedkpjaojdkpcaaGreatL9
import Derived.ChangeArms
import Derived.Carry
namespace Go.BL
open Go.RowKit
set_option linter.unusedVariables false
set_option linter.unusedSimpArgs false

section
variable (P : Program) (f : AF) (h : AH) (k : Ko)
theorem o_move (x : Operand) : opG P (.move x) f h k = kr P k (ev f x) h := _root_.id rfl
theorem o_assign (x : Operand) : opG P (.assign x) f h k = kr P k (ev f x) h := _root_.id rfl
def pickG (P : Program) (c a b : AV) (h : AH) (k : Ko) : Prop := match c with | .one (.c (.bool t)) => kr P k (if t = true then a else b) h | _ => False
theorem o_pick (c a b : Operand) : opG P (.pick c a b) f h k = pickG P (ev f c) (ev f a) (ev f b) h k := _root_.id rfl
theorem pick_t (a b : AV) : pickG P (.one (.c (.bool true))) a b h k = kr P k a h := by simp only [pickG, if_true]
theorem pick_f (a b : AV) : pickG P (.one (.c (.bool false))) a b h k = kr P k b h := by simp only [pickG, Bool.false_eq_true, if_false]
theorem pick_b (t a b : Bool) : pickG P (.one (.c (.bool t))) (.one (.c (.bool a))) (.one (.c (.bool b))) h k = kr P k (.one (.c (.bool (if t = true then a else b)))) h := by cases t <;> simp [pickG]
theorem pick_b' (t : Bool) (a b : AV) : pickG P (.one (.c (.bool t))) a b h k = kr P k (if t = true then a else b) h := _root_.id rfl
def newG (P : Program) (t : TypeId) (z : Option (List CV)) (n : Option Nat) (h : AH) (k : Ko) : Prop := On z fun cs => On n fun n => n = cs.length ∧ 0 < n ∧ kr P k (.one (.pt h.length 0 0 0)) (h ++ [.own 0 t n (some 1) [cs]])
theorem o_alloc (t : TypeId) : opG P (.alloc t) f h k = newG P t (zeroA P t) (sizeA P t) h k := _root_.id rfl
theorem new_some (t : TypeId) (cs : List CV) (n : Nat) (hn : n = cs.length) (h0 : 0 < n) : newG P t (some cs) (some n) h k = kr P k (.one (.pt h.length 0 0 0)) (h ++ [.own 0 t n (some 1) [cs]]) := by simp only [newG, On, ← hn, h0, true_and]
def boxG (P : Program) (t : TypeId) (x : Option (List CV)) (h : AH) (k : Ko) : Prop := On x fun cs => 0 < cs.length ∧ kr P k (.one (.pt h.length 0 0 0)) (h ++ [.own 0 t cs.length (some 1) [cs]])
theorem o_box (t : TypeId) (x : Operand) : opG P (.box t x) f h k = boxG P t (cellsA (ev f x)) h k := _root_.id rfl
theorem box_some (t : TypeId) (cs : List CV) (h0 : 0 < cs.length) : boxG P t (some cs) h k = kr P k (.one (.pt h.length 0 0 0)) (h ++ [.own 0 t cs.length (some 1) [cs]]) := by simp only [boxG, On, h0, true_and]
/-- A value that is there or not. -/
def vG (P : Program) (v : Option AV) (h : AH) (k : Ko) : Prop := On v fun v => kr P k v h
theorem v_some (v : AV) : vG P (some v) h k = kr P k v h := _root_.id rfl
/-! ### Objects looked up -/
def obA (o : Option AO) (g : Nat) : Option (TypeId × Nat × Option Nat × List (List CV)) := match o with
  | some (.own g' t k cap es) => if g' = g then some (t, k, cap, es) else none
  | _ => none
theorem objA_at (l g : Nat) : objA h l g = obA h[l]? g := _root_.id rfl
theorem obA_own (g : Nat) (t : TypeId) (n : Nat) (cap : Option Nat) (es : List (List CV)) : obA (some (.own g t n cap es)) g = some (t, n, cap, es) := by simp [obA]
def obR (o : Option AO) (g : Nat) : Option (TypeId × Nat × List (List CV)) := match o with
  | some (.own g' t k cap es) => if g' = g then some (t, k, es) else none
  | some (.ro g' t k es) => if g' = g then some (t, k, es) else none
  | _ => none
theorem objR_at (l g : Nat) : objR h l g = obR h[l]? g := _root_.id rfl
theorem obR_own (g : Nat) (t : TypeId) (n : Nat) (cap : Option Nat) (es : List (List CV)) : obR (some (.own g t n cap es)) g = some (t, n, es) := by simp [obR]
theorem obR_ro (g : Nat) (t : TypeId) (n : Nat) (es : List (List CV)) : obR (some (.ro g t n es)) g = some (t, n, es) := by simp [obR]
/-! ### Loads and stores -/
def ldE (P : Program) (t : TypeId) (e : Option (List CV)) (off : Nat) : Option AV := e.bind fun e => partA P t e off
theorem ldE_some (t : TypeId) (e : List CV) (off : Nat) : ldE P t (some e) off = partA P t e off := _root_.id rfl
def ldR (P : Program) (t : TypeId) (q : Option (TypeId × Nat × List (List CV))) (i off : Nat) : Option AV := q.bind fun q => ldE P t (q.2.2[i]?) off
theorem ldR_some (t ty : TypeId) (n : Nat) (es : List (List CV)) (i off : Nat) : ldR P t (some (ty, n, es)) i off = ldE P t es[i]? off := _root_.id rfl
def loadG (P : Program) (t : TypeId) (a : AV) (h : AH) (k : Ko) : Prop := match a with
  | .one (.pt l g i off) => vG P (ldR P t (objR h l g) i off) h k
  | .one (.pel e off) => vG P (partA P t e off) h k
  | _ => False
theorem o_load (t : TypeId) (a : Operand) : opG P (.load t a) f h k = loadG P t (ev f a) h k := by
  simp only [opG, aop2, aop, aop1, loadG]
  split <;> simp_all only
  · rename_i l g i off _
    cases objR h l g with
    | none => rfl
    | some q =>
      simp only [On, ldR, ldE, vG, Option.bind_some]
      cases q.2.2[i]? <;> rfl
  · rfl
theorem load_pt (t : TypeId) (l g i off : Nat) : loadG P t (.one (.pt l g i off)) h k = vG P (ldR P t (objR h l g) i off) h k := _root_.id rfl
theorem load_pel (t : TypeId) (e : List CV) (off : Nat) : loadG P t (.one (.pel e off)) h k = vG P (partA P t e off) h k := _root_.id rfl
def stE (P : Program) (n : Option Nat) (l g i off : Nat) (q : TypeId × Nat × Option Nat × List (List CV)) (e : Option (List CV)) (x : Option (List CV)) (h : AH) (k : Ko) : Prop := On e fun e => On x fun vs => n = some vs.length ∧ off + vs.length ≤ e.length ∧ kr P k undefA (h.set l (.own g q.1 q.2.1 q.2.2.1 (q.2.2.2.set i (cset e off vs))))
def setG (P : Program) (n : Option Nat) (l g i off : Nat) (q : Option (TypeId × Nat × Option Nat × List (List CV))) (x : Option (List CV)) (h : AH) (k : Ko) : Prop := On q fun q => stE P n l g i off q q.2.2.2[i]? x h k
def storeG (P : Program) (n : Option Nat) (a x : AV) (h : AH) (k : Ko) : Prop := match a with
  | .one (.pt l g i off) => setG P n l g i off (objA h l g) (cellsA x) h k
  | _ => False
theorem o_store (t : TypeId) (a x : Operand) : opG P (.store t a x) f h k = storeG P (sizeA P t) (ev f a) (ev f x) h k := _root_.id rfl
theorem store_pt (n : Option Nat) (l g i off : Nat) (x : AV) : storeG P n (.one (.pt l g i off)) x h k = setG P n l g i off (objA h l g) (cellsA x) h k := _root_.id rfl
theorem set_some (n : Option Nat) (l g i off : Nat) (t : TypeId) (m : Nat) (cap : Option Nat) (es : List (List CV)) (x : Option (List CV)) : setG P n l g i off (some (t, m, cap, es)) x h k = stE P n l g i off (t, m, cap, es) es[i]? x h k := _root_.id rfl
theorem stE_some (n l g i off : Nat) (t : TypeId) (m : Nat) (cap : Option Nat) (es : List (List CV)) (e vs : List CV) (h1 : n = vs.length) (h2 : off + n ≤ e.length) : stE P (some n) l g i off (t, m, cap, es) (some e) (some vs) h k = kr P k undefA (h.set l (.own g t m cap (es.set i (cset e off vs)))) := by
  subst h1
  simp only [stE, On, true_and, eq_iff_iff]
  exact ⟨fun q => q.2, fun q => ⟨h2, q⟩⟩
def ptG (P : Program) (b : Bool) (v : AV) (h : AH) (k : Ko) : Prop := b = true ∧ kr P k v h
theorem pt_t (v : AV) : ptG P true v h k = kr P k v h := by simp [ptG]
def faG (P : Program) (q : Option (Nat × TypeId)) (a : AV) (h : AH) (k : Ko) : Prop := match a with
  | .one (.pt l g i off) => On q fun q => ptG P (objR h l g).isSome (.one (.pt l g i (off + q.1))) h k
  | .one (.pel e off) => On q fun q => kr P k (.one (.pel e (off + q.1))) h
  | _ => False
theorem o_fieldAddr (s : TypeId) (x : Operand) (i : Nat) : opG P (.fieldAddr s x i) f h k = faG P (offA P s i) (ev f x) h k := _root_.id rfl
theorem fa_pt (l g i off o : Nat) (t : TypeId) : faG P (some (o, t)) (.one (.pt l g i off)) h k = ptG P (objR h l g).isSome (.one (.pt l g i (off + o))) h k := _root_.id rfl
theorem fa_pel (e : List CV) (off o : Nat) (t : TypeId) : faG P (some (o, t)) (.one (.pel e off)) h k = kr P k (.one (.pel e (off + o))) h := _root_.id rfl
def fdG (P : Program) (q : Option (Nat × TypeId)) (a : AV) (h : AH) (k : Ko) : Prop := match a with
  | .agg cs => On q fun q => vG P (partA P q.2 cs q.1) h k
  | _ => False
theorem o_field (s : TypeId) (x : Operand) (i : Nat) : opG P (.field s x i) f h k = fdG P (offA P s i) (ev f x) h k := _root_.id rfl
theorem fd_agg (cs : List CV) (o : Nat) (t : TypeId) : fdG P (some (o, t)) (.agg cs) h k = vG P (partA P t cs o) h k := _root_.id rfl
def iaO (P : Program) (n : Nat) (q : Option (TypeId × Nat × List (List CV))) (l g off len : Nat) (i : Int) (h : AH) (k : Ko) : Prop := On q fun q => q.2.1 = n ∧ 0 ≤ i ∧ i < len ∧ kr P k (.one (.pt l g (off + i.toNat) 0)) h
def iaE (P : Program) (n : Nat) (e : Option (List CV)) (h : AH) (k : Ko) : Prop := On e fun e => e.length = n ∧ kr P k (.one (.pel e 0)) h
def iaG (P : Program) (n : Option Nat) (x ix : AV) (h : AH) (k : Ko) : Prop := On n fun n => match x, ix with
    | .one (.sl l g off len), .one (.c (.int _ i)) => iaO P n (objR h l g) l g off len i h k
    | .one (.im es), .one (.c (.int _ i)) => 0 ≤ i ∧ iaE P n es[i.toNat]? h k
    | _, _ => False
theorem o_indexAddr (t : TypeId) (x ix : Operand) : opG P (.indexAddr t x ix) f h k = iaG P ((elemA P t).bind (sizeA P)) (ev f x) (ev f ix) h k := by
  simp only [opG, aop2, aop, aop1, iaG]
  cases elemA P t <;> simp only [On, Option.bind_some, Option.bind_none]
  cases sizeA P _ <;> simp only
  rfl
theorem ia_sl (n l g off len : Nat) (ki : IntKind) (i : Int) : iaG P (some n) (.one (.sl l g off len)) (.one (.c (.int ki i))) h k = iaO P n (objR h l g) l g off len i h k := _root_.id rfl
theorem iaO_some (n l g off len : Nat) (t : TypeId) (es : List (List CV)) (i : Int) : iaO P n (some (t, n, es)) l g off len i h k = (0 ≤ i ∧ i < len ∧ kr P k (.one (.pt l g (off + i.toNat) 0)) h) := by simp [iaO, On]
theorem ia_im (n : Nat) (es : List (List CV)) (ki : IntKind) (i : Int) : iaG P (some n) (.one (.im es)) (.one (.c (.int ki i))) h k = (0 ≤ i ∧ iaE P n es[i.toNat]? h k) := _root_.id rfl
theorem iaE_some (n : Nat) (e : List CV) (hn : e.length = n) : iaE P n (some e) h k = kr P k (.one (.pel e 0)) h := by simp [iaE, On, hn]
def ixG (P : Program) (b : Bool) (x ix : AV) (h : AH) (k : Ko) : Prop := b = true ∧ (match x, ix with
    | .one (.c (.string s)), .one (.c (.int _ i)) => 0 ≤ i ∧ ∃ hi : i.toNat < s.size, kr P k (.one (.c (.int .u8 (s[i.toNat]'hi).toNat))) h
    | _, _ => False)
theorem o_index (t : TypeId) (x ix : Operand) : opG P (.index t x ix) f h k = ixG P (strA P t) (ev f x) (ev f ix) h k := _root_.id rfl
theorem ix_str (s : ByteArray) (ki : IntKind) (i : Int) : ixG P true (.one (.c (.string s))) (.one (.c (.int ki i))) h k = (0 ≤ i ∧ ∃ hi : i.toNat < s.size, kr P k (.one (.c (.int .u8 (s[i.toNat]'hi).toNat))) h) := by simp only [ixG, true_and]
/-- A slice held against nil. -/
def nqG (P : Program) (op : BinOp) (b1 b2 b3 : Bool) (q : Option Bool) (h : AH) (k : Ko) : Prop := b1 = true ∧ b2 = true ∧ b3 = true ∧ (match op, q with
      | .eql, some b => kr P k (.one (.c (.bool b))) h
      | .neq, some b => kr P k (.one (.c (.bool (!b)))) h
      | .eql, none => ∀ b, kr P k (.one (.c (.bool b))) h
      | .neq, none => ∀ b, kr P k (.one (.c (.bool b))) h
      | _, _ => False)
theorem nq_e (b : Bool) : nqG P .eql true true true (some b) h k = kr P k (.one (.c (.bool b))) h := by simp [nqG]
theorem nq_n (b : Bool) : nqG P .neq true true true (some b) h k = kr P k (.one (.c (.bool (!b)))) h := by simp [nqG]
theorem nq_e0 : nqG P .eql true true true none h k = ∀ b, kr P k (.one (.c (.bool b))) h := by simp [nqG]
theorem nq_n0 : nqG P .neq true true true none h k = ∀ b, kr P k (.one (.c (.bool b))) h := by simp [nqG]
theorem is_nl : isSl .nl = true := _root_.id rfl
theorem is_emp : isSl .emp = true := _root_.id rfl
theorem is_im (es : List (List CV)) : isSl (.im es) = true := _root_.id rfl
theorem is_sl (l g off len : Nat) : isSl (.sl l g off len) = true := _root_.id rfl
theorem fr_nl : fresh h .nl = true := _root_.id rfl
theorem fr_emp : fresh h .emp = true := _root_.id rfl
theorem fr_im (es : List (List CV)) : fresh h (.im es) = true := _root_.id rfl
theorem fr_sl (l g off len : Nat) : fresh h (.sl l g off len) = (objR h l g).isSome := _root_.id rfl
theorem nq_nl : nilQ .nl = some true := _root_.id rfl
theorem nq_emp : nilQ .emp = none := _root_.id rfl
theorem nq_im0 : nilQ (.im []) = none := _root_.id rfl
theorem nq_im (es : List (List CV)) (he : es ≠ []) : nilQ (.im es) = some false := by simp [nilQ, he]
theorem nq_imc (e : List CV) (es : List (List CV)) : nilQ (.im (e :: es)) = some false := _root_.id rfl
theorem nq_sl0 (l g off : Nat) : nilQ (.sl l g off 0) = none := _root_.id rfl
theorem nq_sl (l g off len : Nat) (hl : len ≠ 0) : nilQ (.sl l g off len) = some false := by simp [nilQ, hl]
theorem nq_sls (l g off len : Nat) : nilQ (.sl l g off (len + 1)) = some false := _root_.id rfl
def biG (P : Program) (op : BinOp) (t : TypeId) (x y : AV) (h : AH) (k : Ko) : Prop := match x, y with
    | .one (.c a), .one (.c b) => On (binA P op t a b) fun v => kr P k (.one (.c v)) h
    | .one a, .one .nl => nqG P op (elemA P t).isSome (isSl a) (fresh h a) (nilQ a) h k
    | .agg xs, .agg ys => On (eqTA P t) fun fs => On (eqFA P xs ys fs) fun b => (match op with
      | .eql => kr P k (.one (.c (.bool b))) h
      | .neq => kr P k (.one (.c (.bool (!b)))) h
      | _ => False)
    | _, _ => False
theorem o_bin (op : BinOp) (t : TypeId) (x y : Operand) (t2 : TypeId) : opG P (.binOp op t x y t2) f h k = biG P op t (ev f x) (ev f y) h k := _root_.id rfl
theorem b_add (t : TypeId) (a b : Int) : biG P .add t (.one (.c (.int .i64 a))) (.one (.c (.int .i64 b))) h k = kr P k (.one (.c (.int .i64 (wrap64 (a + b))))) h := by simp only [biG, On, binA, intA, if_true, IntKind.wrap_i64, wrap64]
theorem b_sub (t : TypeId) (a b : Int) : biG P .sub t (.one (.c (.int .i64 a))) (.one (.c (.int .i64 b))) h k = kr P k (.one (.c (.int .i64 (wrap64 (a - b))))) h := by simp only [biG, On, binA, intA, if_true, IntKind.wrap_i64, wrap64]
theorem b_mul (t : TypeId) (a b : Int) : biG P .mul t (.one (.c (.int .i64 a))) (.one (.c (.int .i64 b))) h k = kr P k (.one (.c (.int .i64 (wrap64 (a * b))))) h := by simp only [biG, On, binA, intA, if_true, IntKind.wrap_i64, wrap64]
theorem b_quo (t : TypeId) (a b : Int) (hb : b ≠ 0) : biG P .quo t (.one (.c (.int .i64 a))) (.one (.c (.int .i64 b))) h k = kr P k (.one (.c (.int .i64 (wrap64 (a.tdiv b))))) h := by simp only [biG, On, binA, intA, if_true, if_neg hb, IntKind.wrap_i64, wrap64]
theorem b_rem (t : TypeId) (a b : Int) (hb : b ≠ 0) : biG P .rem t (.one (.c (.int .i64 a))) (.one (.c (.int .i64 b))) h k = kr P k (.one (.c (.int .i64 (a.tmod b)))) h := by simp only [biG, On, binA, intA, if_true, if_neg hb]
theorem b_eql (t : TypeId) (ki : IntKind) (a b : Int) : biG P .eql t (.one (.c (.int ki a))) (.one (.c (.int ki b))) h k = kr P k (.one (.c (.bool (a == b)))) h := by simp only [biG, On, binA, intA, if_true]
theorem b_neq (t : TypeId) (ki : IntKind) (a b : Int) : biG P .neq t (.one (.c (.int ki a))) (.one (.c (.int ki b))) h k = kr P k (.one (.c (.bool (!(a == b))))) h := by simp only [biG, On, binA, intA, if_true]; rfl
theorem b_lss (t : TypeId) (ki : IntKind) (a b : Int) : biG P .lss t (.one (.c (.int ki a))) (.one (.c (.int ki b))) h k = kr P k (.one (.c (.bool (decide (a < b))))) h := by simp only [biG, On, binA, intA, if_true]
theorem b_leq (t : TypeId) (ki : IntKind) (a b : Int) : biG P .leq t (.one (.c (.int ki a))) (.one (.c (.int ki b))) h k = kr P k (.one (.c (.bool (decide (a ≤ b))))) h := by simp only [biG, On, binA, intA, if_true]
theorem b_gtr (t : TypeId) (ki : IntKind) (a b : Int) : biG P .gtr t (.one (.c (.int ki a))) (.one (.c (.int ki b))) h k = kr P k (.one (.c (.bool (decide (b < a))))) h := by simp only [biG, On, binA, intA, if_true, gt_iff_lt]
theorem b_geq (t : TypeId) (ki : IntKind) (a b : Int) : biG P .geq t (.one (.c (.int ki a))) (.one (.c (.int ki b))) h k = kr P k (.one (.c (.bool (decide (b ≤ a))))) h := by simp only [biG, On, binA, intA, if_true, ge_iff_le]
theorem b_beql (t : TypeId) (a b : Bool) (hb : boolA P t = true) : biG P .eql t (.one (.c (.bool a))) (.one (.c (.bool b))) h k = kr P k (.one (.c (.bool (a == b)))) h := by simp only [biG, On, binA, hb, if_true]
theorem b_bneq (t : TypeId) (a b : Bool) (hb : boolA P t = true) : biG P .neq t (.one (.c (.bool a))) (.one (.c (.bool b))) h k = kr P k (.one (.c (.bool (!(a == b))))) h := by simp only [biG, On, binA, hb, if_true]
theorem bl_eq (a b : ByteArray) : (a.toList == b.toList) = decide (a = b) := by
  by_cases e : a = b
  · subst e; simp
  · rw [decide_eq_false e, beq_eq_false_iff_ne]
    intro h
    rw [ByteArray.toList_eq, ByteArray.toList_eq] at h
    exact e (ByteArray.ext (Array.toList_inj.1 h))
theorem b_seql (t : TypeId) (a b : ByteArray) : biG P .eql t (.one (.c (.string a))) (.one (.c (.string b))) h k = kr P k (.one (.c (.bool (decide (a = b))))) h := by simp only [biG, On, binA, strOpA, bl_eq]
theorem b_sneq (t : TypeId) (a b : ByteArray) : biG P .neq t (.one (.c (.string a))) (.one (.c (.string b))) h k = kr P k (.one (.c (.bool (!decide (a = b))))) h := by simp only [biG, On, binA, strOpA, bl_eq]
theorem b_sadd (t : TypeId) (a b : ByteArray) (hs : a.size + b.size ≤ 9223372036854775807) : biG P .add t (.one (.c (.string a))) (.one (.c (.string b))) h k = kr P k (.one (.c (.string (a ++ b)))) h := by simp only [biG, On, binA, strOpA, if_pos hs]
theorem b_any (op : BinOp) (t : TypeId) (a b v : Value) (hv : binA P op t a b = some v) : biG P op t (.one (.c a)) (.one (.c b)) h k = kr P k (.one (.c v)) h := by simp only [biG, On, hv]
def aqG (P : Program) (b : Option Bool) (n : Bool) (h : AH) (k : Ko) : Prop := On b fun b => kr P k (.one (.c (.bool (if n = true then !b else b)))) h
theorem b_aeql (t : TypeId) (xs ys : List CV) : biG P .eql t (.agg xs) (.agg ys) h k = aqG P ((eqTA P t).bind (eqFA P xs ys)) false h k := by
  simp only [biG, aqG]
  cases eqTA P t <;> simp only [On, Option.bind_some, Option.bind_none, Bool.false_eq_true, if_false]
theorem b_aneq (t : TypeId) (xs ys : List CV) : biG P .neq t (.agg xs) (.agg ys) h k = aqG P ((eqTA P t).bind (eqFA P xs ys)) true h k := by
  simp only [biG, aqG]
  cases eqTA P t <;> simp only [On, Option.bind_some, Option.bind_none, if_true]
theorem aq_f (b : Bool) : aqG P (some b) false h k = kr P k (.one (.c (.bool b))) h := _root_.id rfl
theorem aq_t (b : Bool) : aqG P (some b) true h k = kr P k (.one (.c (.bool (!b)))) h := _root_.id rfl
theorem eq_nil (xs ys : List CV) : eqFA P xs ys [] = some true := _root_.id rfl
def and2 (e q : Option Bool) : Option Bool := match e, q with | some e, some q => some (e && q) | _, _ => none
theorem and2_some (e q : Bool) : and2 (some e) (some q) = some (e && q) := _root_.id rfl
def efG (P : Program) (t : TypeId) (a : Option Bool) (x y : Option CV) (r : Option Bool) : Option Bool := match a, x, y with
  | some false, some (.c a), some (.c b) => and2 (eqVA P t a b) r
  | _, _, _ => none
theorem eq_cons (xs ys : List CV) (t : TypeId) (o : Nat) (r : List (TypeId × Nat)) : eqFA P xs ys ((t, o) :: r) = efG P t (aggA P t) xs[o]? ys[o]? (eqFA P xs ys r) := by
  rw [show eqFA P xs ys ((t, o) :: r) = (match aggA P t, xs[o]?, ys[o]? with
    | some false, some (.c a), some (.c b) => (eqVA P t a b).bind fun e => (eqFA P xs ys r).map (e && ·)
    | _, _, _ => none) from rfl]
  unfold efG
  split
  · cases eqVA P t _ _ <;> cases eqFA P xs ys r <;> rfl
  · rfl
theorem ef_some (t : TypeId) (a b : Value) (r : Option Bool) : efG P t (some false) (some (.c a)) (some (.c b)) r = and2 (eqVA P t a b) r := _root_.id rfl
theorem ev_int (t : TypeId) (ki : IntKind) (a b : Int) (ht : (kindA P t).isSome = true) : eqVA P t (.int ki a) (.int ki b) = some (a == b) := by simp [eqVA, ht]
theorem ev_str (t : TypeId) (a b : ByteArray) (ht : strA P t = true) : eqVA P t (.string a) (.string b) = some (decide (a = b)) := by simp only [eqVA, ht, if_true, bl_eq]
theorem ev_bool (t : TypeId) (a b : Bool) (ht : boolA P t = true) : eqVA P t (.bool a) (.bool b) = some (a == b) := by simp [eqVA, ht]
theorem b_addk (t : TypeId) (ki : IntKind) (a b : Int) : biG P .add t (.one (.c (.int ki a))) (.one (.c (.int ki b))) h k = kr P k (.one (.c (.int ki (ki.wrap (a + b))))) h := by simp only [biG, On, binA, intA, if_true]
theorem b_subk (t : TypeId) (ki : IntKind) (a b : Int) : biG P .sub t (.one (.c (.int ki a))) (.one (.c (.int ki b))) h k = kr P k (.one (.c (.int ki (ki.wrap (a - b))))) h := by simp only [biG, On, binA, intA, if_true]
theorem b_mulk (t : TypeId) (ki : IntKind) (a b : Int) : biG P .mul t (.one (.c (.int ki a))) (.one (.c (.int ki b))) h k = kr P k (.one (.c (.int ki (ki.wrap (a * b))))) h := by simp only [biG, On, binA, intA, if_true]
theorem b_quok (t : TypeId) (ki : IntKind) (a b : Int) (hb : b ≠ 0) : biG P .quo t (.one (.c (.int ki a))) (.one (.c (.int ki b))) h k = kr P k (.one (.c (.int ki (ki.wrap (a.tdiv b))))) h := by simp only [biG, On, binA, intA, if_true, if_neg hb]
theorem b_remk (t : TypeId) (ki : IntKind) (a b : Int) (hb : b ≠ 0) : biG P .rem t (.one (.c (.int ki a))) (.one (.c (.int ki b))) h k = kr P k (.one (.c (.int ki (a.tmod b)))) h := by simp only [biG, On, binA, intA, if_true, if_neg hb]
theorem b_and (t : TypeId) (ki : IntKind) (a b : Int) : biG P .and t (.one (.c (.int ki a))) (.one (.c (.int ki b))) h k = kr P k (.one (.c (.int ki (ki.wrap (BitVec.ofInt ki.bits a &&& BitVec.ofInt ki.bits b).toNat)))) h := by simp only [biG, On, binA, intA, if_true]
theorem b_or (t : TypeId) (ki : IntKind) (a b : Int) : biG P .or t (.one (.c (.int ki a))) (.one (.c (.int ki b))) h k = kr P k (.one (.c (.int ki (ki.wrap (BitVec.ofInt ki.bits a ||| BitVec.ofInt ki.bits b).toNat)))) h := by simp only [biG, On, binA, intA, if_true]
theorem b_xor (t : TypeId) (ki : IntKind) (a b : Int) : biG P .xor t (.one (.c (.int ki a))) (.one (.c (.int ki b))) h k = kr P k (.one (.c (.int ki (ki.wrap (BitVec.ofInt ki.bits a ^^^ BitVec.ofInt ki.bits b).toNat)))) h := by simp only [biG, On, binA, intA, if_true]
theorem b_shl (t : TypeId) (ki kj : IntKind) (a b : Int) (hb : 0 ≤ b) : biG P .shl t (.one (.c (.int ki a))) (.one (.c (.int kj b))) h k = kr P k (.one (.c (.int ki (ki.wrap (a * 2 ^ min b.toNat ki.bits))))) h := by simp only [biG, On, binA, if_neg (Int.not_lt.2 hb)]
theorem b_shr (t : TypeId) (ki kj : IntKind) (a b : Int) (hb : 0 ≤ b) : biG P .shr t (.one (.c (.int ki a))) (.one (.c (.int kj b))) h k = kr P k (.one (.c (.int ki (a.fdiv (2 ^ min b.toNat ki.bits))))) h := by simp only [biG, On, binA, if_neg (Int.not_lt.2 hb)]
theorem b_nil (op : BinOp) (t : TypeId) (a : CV) (ha : isSl a = true) : biG P op t (.one a) (.one .nl) h k = nqG P op (elemA P t).isSome (isSl a) (fresh h a) (nilQ a) h k := by
  cases a <;> first | rfl | cases ha
def unG (P : Program) (op : UnOp) (x : AV) (h : AH) (k : Ko) : Prop := match x with
    | .one (.c a) => On (unA op a) fun v => kr P k (.one (.c v)) h
    | _ => False
theorem o_un (op : UnOp) (t : TypeId) (x : Operand) : opG P (.unOp op t x) f h k = unG P op (ev f x) h k := _root_.id rfl
theorem un_not (b : Bool) : unG P .not (.one (.c (.bool b))) h k = kr P k (.one (.c (.bool (!b)))) h := _root_.id rfl
theorem un_neg (a : Int) : unG P .neg (.one (.c (.int .i64 a))) h k = kr P k (.one (.c (.int .i64 (wrap64 (0 - a))))) h := by simp only [unG, unA, On, IntKind.wrap_i64, wrap64]
def exG (P : Program) (x : AV) (i : Nat) (h : AH) (k : Ko) : Prop := match x with
    | .tup xs => vG P xs[i]? h k
    | _ => False
theorem o_extract (x : Operand) (i : Nat) : opG P (.extract x i) f h k = exG P (ev f x) i h k := _root_.id rfl
theorem ex_tup (xs : List AV) (i : Nat) : exG P (.tup xs) i h k = vG P xs[i]? h k := _root_.id rfl
def ncG (P : Program) (x : AV) (h : AH) (k : Ko) : Prop := match x with
    | .one (.pt l g i off) => ptG P (objR h l g).isSome (.one (.pt l g i off)) h k
    | .one (.pel e off) => kr P k (.one (.pel e off)) h
    | _ => False
theorem o_nilCheck (x : Operand) : opG P (.nilCheck x) f h k = ncG P (ev f x) h k := _root_.id rfl
theorem nc_pt (l g i off : Nat) : ncG P (.one (.pt l g i off)) h k = ptG P (objR h l g).isSome (.one (.pt l g i off)) h k := _root_.id rfl
theorem nc_pel (e : List CV) (off : Nat) : ncG P (.one (.pel e off)) h k = kr P k (.one (.pel e off)) h := _root_.id rfl
def lnG (P : Program) (t : TypeId) (x : AV) (h : AH) (k : Ko) : Prop := match x with
        | .one (.c (.string s)) => strA P t = true ∧ kr P k (.one (.c (.int .i64 s.size))) h
        | .one .nl => (elemA P t).isSome = true ∧ kr P k (.one (.c (.int .i64 0))) h
        | .one .emp => (elemA P t).isSome = true ∧ kr P k (.one (.c (.int .i64 0))) h
        | .one (.im es) => (elemA P t).isSome = true ∧ kr P k (.one (.c (.int .i64 es.length))) h
        | .one (.sl l g _ len) => (elemA P t).isSome = true ∧ (objR h l g).isSome = true ∧ kr P k (.one (.c (.int .i64 len))) h
        | _ => False
theorem o_len (x : Operand) (t : TypeId) : opG P (.call { callee := .builtin .len, args := #[x], argTypes := #[t] }) f h k = lnG P t (ev f x) h k := _root_.id rfl
theorem ln_str (t : TypeId) (s : ByteArray) (ht : strA P t = true) : lnG P t (.one (.c (.string s))) h k = kr P k (.one (.c (.int .i64 s.size))) h := by simp [lnG, ht]
theorem ln_nl (t : TypeId) (ht : (elemA P t).isSome = true) : lnG P t (.one .nl) h k = kr P k (.one (.c (.int .i64 0))) h := by simp [lnG, ht]
theorem ln_emp (t : TypeId) (ht : (elemA P t).isSome = true) : lnG P t (.one .emp) h k = kr P k (.one (.c (.int .i64 0))) h := by simp [lnG, ht]
theorem ln_im (t : TypeId) (es : List (List CV)) (ht : (elemA P t).isSome = true) : lnG P t (.one (.im es)) h k = kr P k (.one (.c (.int .i64 es.length))) h := by simp [lnG, ht]
theorem ln_sl (t : TypeId) (l g off len : Nat) (ht : (elemA P t).isSome = true) : lnG P t (.one (.sl l g off len)) h k = ptG P (objR h l g).isSome (.one (.c (.int .i64 len))) h k := by simp [lnG, ht, ptG]
/-- A call, in the words of a contract: what is handed on, as it is, and by content. -/
def caG (P : Program) (g : AV) (args : List AV) (h : AH) (k : Ko) : Prop := match g with
      | .one (.clo g caps) => callA2 P g (args ++ caps.map fun l => .one (.pt l 0 0 0)) h (kr P k) (krl P k) (krf P k)
      | _ => False
def clG (P : Program) (g : Nat) (args args' : List AV) (ls : List Nat) (b : Bool) (h : AH) (k : Ko) : Prop :=
  (ACalls P g args' [] fun r h' => if freeA r = true ∧ h'.all freeO = true then krl P k (shA h.length r) (h ++ h'.map (shO h.length)) else kr P k (shA h.length r) (frH ls h ++ h'.map (shO h.length))) ∨ (b = false ∧ ACalls P g args h (kr P k)) ∨ ExtA P g args h (krl P k) ∨ (b = true ∧ ACalls P g args [] fun r h' => if freeA r = true ∧ h'.all freeO = true then krl P k (shA h.length r) (h ++ h'.map (shO h.length)) else kr P k (shA h.length r) (frH ls h ++ h'.map (shO h.length))) ∨ ∃ q, b = false ∧ FCalls P g args h q (krf P k q)
theorem o_call (g : Operand) (args : Array Operand) (ts : Array TypeId) : opG P (.call { callee := .value g, args := args, argTypes := ts }) f h k = caG P (ev f g) (args.toList.map (ev f)) h k := _root_.id rfl
theorem ca_fn (g : Nat) (args : List AV) : caG P (.one (.clo g [])) args h k = clG P g args (args.map (imA h)) (args.flatMap locA) (args.all clA) h k := by simp only [caG, List.map_nil, List.append_nil, callA2, clG, calK2]; rfl
theorem ca_clos (g : Nat) (caps : List Nat) (args : List AV) (ds : DS) (dst : Option Nat) (r : List Oper) (s : List Fr) (Q : QT) (f' : AF) : caG P (.one (.clo g caps)) args h (.sq ds dst r s Q f') = callA P g (args ++ caps.map fun l => .one (.pt l 0 0 0)) h (kr P (.sq ds dst r s Q f')) := callA2_same P g _ h (kr P (.sq ds dst r s Q f'))
theorem ca_clo (g c : Nat) (caps : List Nat) (args : List AV) (ds : DS) (dst : Option Nat) (r : List Oper) (s : List Fr) (Q : QT) (f' : AF) : caG P (.one (.clo g (c :: caps))) args h (.sq ds dst r s Q f') = callA P g (args ++ (c :: caps).map fun l => .one (.pt l 0 0 0)) h (kr P (.sq ds dst r s Q f')) := callA2_same P g _ h (kr P (.sq ds dst r s Q f'))
theorem c_val (v : Value) (hv : v.oneCell' = true) : cellsA (.one (.c v)) = some [.c v] := by simp [cellsA, hv]
theorem c_int (ki : IntKind) (n : Int) : cellsA (.one (.c (.int ki n))) = some [.c (.int ki n)] := _root_.id rfl
theorem c_bool (b : Bool) : cellsA (.one (.c (.bool b))) = some [.c (.bool b)] := _root_.id rfl
theorem c_str (s : ByteArray) : cellsA (.one (.c (.string s))) = some [.c (.string s)] := _root_.id rfl
theorem c_nl : cellsA (.one .nl) = some [.nl] := _root_.id rfl
theorem c_emp : cellsA (.one .emp) = some [.emp] := _root_.id rfl
theorem c_im (es : List (List CV)) : cellsA (.one (.im es)) = some [.im es] := _root_.id rfl
theorem c_pt (l g i o : Nat) : cellsA (.one (.pt l g i o)) = some [.pt l g i o] := _root_.id rfl
theorem c_pel (e : List CV) (o : Nat) : cellsA (.one (.pel e o)) = some [.pel e o] := _root_.id rfl
theorem c_sl (l g o n : Nat) : cellsA (.one (.sl l g o n)) = some [.sl l g o n] := _root_.id rfl
theorem c_clo (g : Nat) (caps : List Nat) : cellsA (.one (.clo g caps)) = some [.clo g caps] := _root_.id rfl
theorem c_agg (xs : List CV) : cellsA (.agg xs) = some xs := _root_.id rfl
def paG (a : Option Bool) (n : Option Nat) (cs : List CV) (off : Nat) : Option AV := match a with
  | some true => (match n with | some n => if off + n ≤ cs.length then some (.agg ((cs.drop off).take n)) else none | none => none)
  | some false => (cs[off]?).map .one
  | none => none
theorem p_any (t : TypeId) (cs : List CV) (off : Nat) : partA P t cs off = paG (aggA P t) (sizeA P t) cs off := _root_.id rfl
theorem p_one (n : Option Nat) (cs : List CV) (off : Nat) : paG (some false) n cs off = (cs[off]?).map .one := _root_.id rfl
theorem p_agg (n : Nat) (cs : List CV) (off : Nat) : paG (some true) (some n) cs off = if off + n ≤ cs.length then some (.agg ((cs.drop off).take n)) else none := _root_.id rfl
end
/-! ### The heap's own steps -/
theorem h_cons {h : AH} (a b : AH) : (h ++ a) ++ b = h ++ (a ++ b) := List.append_assoc ..
theorem h_len (h : AH) (a : AH) : (h ++ a).length = h.length + a.length := List.length_append
theorem h_at (h a : AH) (i : Nat) : (h ++ a)[h.length + i]? = a[i]? := by rw [List.getElem?_append_right (by omega)]; congr 1; omega
theorem h_at0 (h a : AH) : (h ++ a)[h.length]? = a[0]? := by rw [List.getElem?_append_right (by omega)]; congr 1; omega
theorem h_old {h : AH} {l : Nat} {o : AO} (a : AH) (hl : h[l]? = some o) : (h ++ a)[l]? = some o := by rw [List.getElem?_append_left (List.getElem?_eq_some_iff.1 hl).1]; exact hl
theorem h_set (h a : AH) (i : Nat) (o : AO) : (h ++ a).set (h.length + i) o = h ++ a.set i o := by rw [List.set_append_right _ _ (by omega)]; congr 2; omega
theorem h_set0 (h a : AH) (o : AO) : (h ++ a).set h.length o = h ++ a.set 0 o := by rw [List.set_append_right _ _ (by omega)]; congr 2; omega
theorem cset_nil {α : Type} (cs : List α) (off : Nat) : cset cs off [] = cs := by simp [cset]
theorem cset_cons {α : Type} (cs : List α) (off : Nat) (v : α) (vs : List α) : cset cs off (v :: vs) = cset (cs.set off v) (off + 1) vs := by simp [cset]
/-! ### Values by content -/
section
variable (h : AH)
theorem im_c (v : Value) : imA h (.one (.c v)) = .one (.c v) := _root_.id rfl
theorem im_nl : imA h (.one .nl) = .one (.im []) := _root_.id rfl
theorem im_emp : imA h (.one .emp) = .one (.im []) := _root_.id rfl
theorem im_im (es : List (List CV)) : imA h (.one (.im es)) = .one (.im es) := _root_.id rfl
theorem im_pel (e : List CV) (o : Nat) : imA h (.one (.pel e o)) = .one (.pel e o) := _root_.id rfl
theorem im_sl (l g off len : Nat) : imA h (.one (.sl l g off len)) = .one (imV h (.sl l g off len)) := _root_.id rfl
theorem im_clo (g : Nat) : imA h (.one (.clo g [])) = .one (.clo g []) := _root_.id rfl
theorem im_agg (xs : List CV) : imA h (.agg xs) = .agg (xs.map (imV h)) := _root_.id rfl
theorem imv_c (v : Value) : imV h (.c v) = .c v := _root_.id rfl
theorem imv_nl : imV h .nl = .im [] := _root_.id rfl
theorem imv_emp : imV h .emp = .im [] := _root_.id rfl
theorem imv_im (es : List (List CV)) : imV h (.im es) = .im es := _root_.id rfl
def imS (q : Option (TypeId × Nat × List (List CV))) (off len : Nat) : CV := match q with
    | some q => if off + len ≤ q.2.2.length then .im (((q.2.2.drop off).take len).map (·.map clz)) else .junk
    | none => .junk
theorem imv_sl (l g off len : Nat) : imV h (.sl l g off len) = imS (objR h l g) off len := _root_.id rfl
theorem imS_some (t : TypeId) (n : Nat) (es : List (List CV)) (off len : Nat) : imS (some (t, n, es)) off len = if off + len ≤ es.length then .im (((es.drop off).take len).map (·.map clz)) else .junk := _root_.id rfl
/-- All of an object. -/
theorem imS_all (t : TypeId) (n : Nat) (es : List (List CV)) : imS (some (t, n, es)) 0 es.length = .im (es.map (·.map clz)) := by simp [imS]
theorem clz_c (v : Value) : clz (.c v) = .c v := _root_.id rfl
theorem clz_im (es : List (List CV)) : clz (.im es) = .im es := _root_.id rfl
theorem clz_nl : clz .nl = .nl := _root_.id rfl
theorem lo_c (v : Value) : locA (.one (.c v)) = [] := _root_.id rfl
theorem lo_nl : locA (.one .nl) = [] := _root_.id rfl
theorem lo_emp : locA (.one .emp) = [] := _root_.id rfl
theorem lo_im (es : List (List CV)) : locA (.one (.im es)) = [] := _root_.id rfl
theorem lo_pel (e : List CV) (o : Nat) : locA (.one (.pel e o)) = [] := _root_.id rfl
theorem lo_pt (l g i o : Nat) : locA (.one (.pt l g i o)) = [] := _root_.id rfl
theorem lo_sl (l g off len : Nat) : locA (.one (.sl l g off len)) = [l] := _root_.id rfl
theorem lo_clo (g : Nat) (caps : List Nat) : locA (.one (.clo g caps)) = [] := _root_.id rfl
theorem lo_agg (xs : List CV) : locA (.agg xs) = xs.flatMap locV := _root_.id rfl
theorem lv_c (v : Value) : locV (.c v) = [] := _root_.id rfl
theorem lv_nl : locV .nl = [] := _root_.id rfl
theorem lv_emp : locV .emp = [] := _root_.id rfl
theorem lv_im (es : List (List CV)) : locV (.im es) = [] := _root_.id rfl
theorem lv_sl (l g off len : Nat) : locV (.sl l g off len) = [l] := _root_.id rfl
theorem fz_nil : frH [] h = h := _root_.id rfl
def frO2 (o : Option AO) (l : Nat) (h : AH) : AH := match o with | some o => h.set l (frO o) | none => h
theorem fz_cons (l : Nat) (r : List Nat) : frH (l :: r) h = frH r (frO2 h[l]? l h) := _root_.id rfl
theorem frO2_some (o : AO) (l : Nat) : frO2 (some o) l h = h.set l (frO o) := _root_.id rfl
theorem frO_own (g : Nat) (t : TypeId) (n : Nat) (cap : Option Nat) (es : List (List CV)) : frO (.own g t n cap es) = .ro g t n (es.map (·.map clz)) := _root_.id rfl
theorem frO_ro (g : Nat) (t : TypeId) (n : Nat) (es : List (List CV)) : frO (.ro g t n es) = .ro g t n es := _root_.id rfl
theorem pl_c (v : Value) : plainA (.one (.c v)) = true := _root_.id rfl
theorem pl_im (es : List (List CV)) : plainA (.one (.im es)) = false := _root_.id rfl
theorem pl_sl (l g off len : Nat) : plainA (.one (.sl l g off len)) = false := _root_.id rfl
theorem pl_agg (xs : List CV) : plainA (.agg xs) = xs.all plainC := _root_.id rfl
theorem pl_tup (xs : List AV) : plainA (.tup xs) = xs.all plainA1 := _root_.id rfl
theorem pl1_c (v : Value) : plainA1 (.one (.c v)) = true := _root_.id rfl
theorem pl1_im (es : List (List CV)) : plainA1 (.one (.im es)) = false := _root_.id rfl
theorem pl1_sl (l g off len : Nat) : plainA1 (.one (.sl l g off len)) = false := _root_.id rfl
theorem pl1_agg (xs : List CV) : plainA1 (.agg xs) = xs.all plainC := _root_.id rfl
theorem plc_c (v : Value) : plainC (.c v) = true := _root_.id rfl
theorem plc_im (es : List (List CV)) : plainC (.im es) = false := _root_.id rfl
theorem plc_nl : plainC .nl = false := _root_.id rfl
theorem plc_sl (l g off len : Nat) : plainC (.sl l g off len) = false := _root_.id rfl
theorem sh_1 (n : Nat) (x : CV) : shA n (.one x) = .one (shV n x) := _root_.id rfl
theorem sh_agg (n : Nat) (xs : List CV) : shA n (.agg xs) = .agg (xs.map (shV n)) := _root_.id rfl
theorem sh_tup (n : Nat) (xs : List AV) : shA n (.tup xs) = .tup (xs.map (shA1 n)) := _root_.id rfl
theorem sh1_1 (n : Nat) (x : CV) : shA1 n (.one x) = .one (shV n x) := _root_.id rfl
theorem sh1_agg (n : Nat) (xs : List CV) : shA1 n (.agg xs) = .agg (xs.map (shV n)) := _root_.id rfl
theorem shv_c (n : Nat) (v : Value) : shV n (.c v) = .c v := _root_.id rfl
theorem shv_nl (n : Nat) : shV n .nl = .nl := _root_.id rfl
theorem shv_emp (n : Nat) : shV n .emp = .emp := _root_.id rfl
theorem shv_im (n : Nat) (es : List (List CV)) : shV n (.im es) = .im es := _root_.id rfl
theorem shv_sl (n l g off len : Nat) : shV n (.sl l g off len) = .sl (n + l) g off len := _root_.id rfl
theorem sho_own (n g : Nat) (t : TypeId) (m : Nat) (cap : Option Nat) (es : List (List CV)) : shO n (.own g t m cap es) = .own g t m cap (es.map (·.map (shV n))) := _root_.id rfl
end
end Go.BL
