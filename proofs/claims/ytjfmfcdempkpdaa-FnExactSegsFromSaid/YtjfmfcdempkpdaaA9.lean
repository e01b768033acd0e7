/- One operation after another, as rewriting steps over known values; what functions hand back. Conditions: none. -/
import Derived.Test.YtjfmfcdempkpdaaA8
namespace Go.AL
open Go.RowKit
set_option linter.unusedVariables false
set_option linter.unusedSimpArgs false

section
variable (P : Program) (f : AF) (h : AH) (k : Ko)
theorem o_move (x : Operand) : opG P (.move x) f h k = kr P k (ev f x) h := _root_.id rfl
theorem o_assign (x : Operand) : opG P (.assign x) f h k = kr P k (ev f x) h := _root_.id rfl
def pickG (P : Program) (c a b : AV) (h : AH) (k : Ko) : Prop := match c with | .one (.c (.bool t)) => kr P k (if t = true then a else b) h | _ => False
theorem o_pick (c a b : Operand) : opG P (.pick c a b) f h k = pickG P (ev f c) (ev f a) (ev f b) h k := _root_.id rfl
theorem pick_t (a b : AV) : pickG P (.one (.c (.bool true))) a b h k = kr P k a h := by simp only [pickG, if_true]
theorem pick_f (a b : AV) : pickG P (.one (.c (.bool false))) a b h k = kr P k b h := by simp only [pickG, Bool.false_eq_true, if_false]
theorem pick_b (t a b : Bool) : pickG P (.one (.c (.bool t))) (.one (.c (.bool a))) (.one (.c (.bool b))) h k = kr P k (.one (.c (.bool (if t = true then a else b)))) h := by cases t <;> simp [pickG]
theorem pick_b' (t : Bool) (a b : AV) : pickG P (.one (.c (.bool t))) a b h k = kr P k (if t = true then a else b) h := _root_.id rfl
def newG (P : Program) (t : TypeId) (z : Option (List CV)) (n : Option Nat) (h : AH) (k : Ko) : Prop := On z fun cs => On n fun n => n = cs.length ∧ kr P k (.one (.ptr h.length 0)) (h ++ [.own t n true cs])
theorem o_alloc (t : TypeId) : opG P (.alloc t) f h k = newG P t (zeroA P t) (sizeA P t) h k := _root_.id rfl
theorem new_some (t : TypeId) (cs : List CV) (n : Nat) (hn : n = cs.length) : newG P t (some cs) (some n) h k = kr P k (.one (.ptr h.length 0)) (h ++ [.own t n true cs]) := by simp only [newG, On, ← hn, true_and]
def boxG (P : Program) (t : TypeId) (x : Option (List CV)) (h : AH) (k : Ko) : Prop := On x fun cs => kr P k (.one (.ptr h.length 0)) (h ++ [.own t cs.length true cs])
theorem o_box (t : TypeId) (x : Operand) : opG P (.box t x) f h k = boxG P t (cellsA (ev f x)) h k := _root_.id rfl
theorem box_some (t : TypeId) (cs : List CV) : boxG P t (some cs) h k = kr P k (.one (.ptr h.length 0)) (h ++ [.own t cs.length true cs]) := _root_.id rfl
/-- A value that is there or not. -/
def vG (P : Program) (v : Option AV) (h : AH) (k : Ko) : Prop := On v fun v => kr P k v h
theorem v_some (v : AV) : vG P (some v) h k = kr P k v h := _root_.id rfl
def ldA (P : Program) (t : TypeId) (o : Option AO) (off : Nat) : Option AV := o.bind fun o => partA P t o.cs off
theorem ld_any (t : TypeId) (o : AO) (off : Nat) : ldA P t (some o) off = partA P t o.cs off := _root_.id rfl
theorem cs_ro (cs : List CV) : (AO.ro cs).cs = cs := _root_.id rfl
theorem cs_own (ty u : Nat) (b : Bool) (cs : List CV) : (AO.own ty u b cs).cs = cs := _root_.id rfl
def loadG (P : Program) (t : TypeId) (a : AV) (h : AH) (k : Ko) : Prop := match a with
  | .one (.ptr l off) => vG P (ldA P t h[l]? off) h k
  | _ => False
theorem o_load (t : TypeId) (a : Operand) : opG P (.load t a) f h k = loadG P t (ev f a) h k := by
  simp only [opG, aop, aop1, loadG]
  split <;> simp_all only
  rename_i l off _
  cases h[l]? <;> simp [On, ldA, vG]
theorem load_ptr (t : TypeId) (l off : Nat) : loadG P t (.one (.ptr l off)) h k = vG P (ldA P t h[l]? off) h k := _root_.id rfl
/-- A cell (or a struct's cells) written into an object. -/
def setG (P : Program) (n : Option Nat) (l off : Nat) (o : Option AO) (x : Option (List CV)) (h : AH) (k : Ko) : Prop := On o fun o => (match o with
      | .own ty u full cs => On x fun vs => n = some vs.length ∧ off + vs.length ≤ cs.length ∧ kr P k undefA (h.set l (.own ty u full (cset cs off vs)))
      | _ => False)
def storeG (P : Program) (n : Option Nat) (a x : AV) (h : AH) (k : Ko) : Prop := match a with
  | .one (.ptr l off) => setG P n l off h[l]? (cellsA x) h k
  | _ => False
theorem o_store (t : TypeId) (a x : Operand) : opG P (.store t a x) f h k = storeG P (sizeA P t) (ev f a) (ev f x) h k := _root_.id rfl
theorem store_ptr (n : Option Nat) (l off : Nat) (x : AV) : storeG P n (.one (.ptr l off)) x h k = setG P n l off h[l]? (cellsA x) h k := _root_.id rfl
theorem set_some (l off ty u : Nat) (full : Bool) (cs vs : List CV) (n : Nat) (h1 : n = vs.length) (h2 : off + n ≤ cs.length) : setG P (some n) l off (some (.own ty u full cs)) (some vs) h k = kr P k undefA (h.set l (.own ty u full (cset cs off vs))) := by
  subst h1
  simp only [setG, On, true_and, eq_iff_iff]
  exact ⟨fun q => q.2, fun q => ⟨h2, q⟩⟩
def faG (P : Program) (q : Option (Nat × TypeId)) (a : AV) (h : AH) (k : Ko) : Prop := match a with
  | .one (.ptr l off) => On q fun q => kr P k (.one (.ptr l (off + q.1))) h
  | _ => False
theorem o_fieldAddr (s : TypeId) (x : Operand) (i : Nat) : opG P (.fieldAddr s x i) f h k = faG P (offA P s i) (ev f x) h k := _root_.id rfl
theorem fa_ptr (l off o : Nat) (t : TypeId) : faG P (some (o, t)) (.one (.ptr l off)) h k = kr P k (.one (.ptr l (off + o))) h := _root_.id rfl
def fdG (P : Program) (q : Option (Nat × TypeId)) (a : AV) (h : AH) (k : Ko) : Prop := match a with
  | .agg cs => On q fun q => vG P (partA P q.2 cs q.1) h k
  | _ => False
theorem o_field (s : TypeId) (x : Operand) (i : Nat) : opG P (.field s x i) f h k = fdG P (offA P s i) (ev f x) h k := _root_.id rfl
theorem fd_agg (cs : List CV) (o : Nat) (t : TypeId) : fdG P (some (o, t)) (.agg cs) h k = vG P (partA P t cs o) h k := _root_.id rfl
def iaG (P : Program) (n : Option Nat) (x ix : AV) (h : AH) (k : Ko) : Prop := On n fun n => match x, ix with
    | .one (.sl l k' off len), .one (.c (.int _ i)) => 0 ≤ i ∧ i < len ∧ kr P k (.one (.ptr l (off + i.toNat * n))) h
    | .one (.slc l off len cap), .one (.c (.int _ i)) => 0 ≤ i ∧ i < len ∧ kr P k (.one (.ptr l (off + i.toNat * n))) h
    | _, _ => False
theorem o_indexAddr (t : TypeId) (x ix : Operand) : opG P (.indexAddr t x ix) f h k = iaG P ((elemA P t).bind (sizeA P)) (ev f x) (ev f ix) h k := by
  simp only [opG, aop, aop1, iaG]
  cases elemA P t <;> simp only [On, Option.bind_some, Option.bind_none]
  cases sizeA P _ <;> simp only
  rfl
theorem ia_sl (n l k' off len : Nat) (ki : IntKind) (i : Int) : iaG P (some n) (.one (.sl l k' off len)) (.one (.c (.int ki i))) h k = (0 ≤ i ∧ i < len ∧ kr P k (.one (.ptr l (off + i.toNat * n))) h) := _root_.id rfl
theorem ia_slc (n l off len cap : Nat) (ki : IntKind) (i : Int) : iaG P (some n) (.one (.slc l off len cap)) (.one (.c (.int ki i))) h k = (0 ≤ i ∧ i < len ∧ kr P k (.one (.ptr l (off + i.toNat * n))) h) := _root_.id rfl
def ixG (P : Program) (b : Bool) (x ix : AV) (h : AH) (k : Ko) : Prop := b = true ∧ (match x, ix with
    | .one (.c (.string s)), .one (.c (.int _ i)) => 0 ≤ i ∧ ∃ hi : i.toNat < s.size, kr P k (.one (.c (.int .u8 (s[i.toNat]'hi).toNat))) h
    | _, _ => False)
theorem o_index (t : TypeId) (x ix : Operand) : opG P (.index t x ix) f h k = ixG P (strA P t) (ev f x) (ev f ix) h k := _root_.id rfl
theorem ix_str (s : ByteArray) (ki : IntKind) (i : Int) : ixG P true (.one (.c (.string s))) (.one (.c (.int ki i))) h k = (0 ≤ i ∧ ∃ hi : i.toNat < s.size, kr P k (.one (.c (.int .u8 (s[i.toNat]'hi).toNat))) h) := by simp only [ixG, true_and]
def biG (P : Program) (op : BinOp) (t : TypeId) (x y : AV) (h : AH) (k : Ko) : Prop := match x, y with
    | .one (.c a), .one (.c b) => (match binA P op t a b with
      | some v => kr P k (.one (.c v)) h
      | none => On (nilA P op t (.c a) (.c b)) fun b => kr P k (.one (.c (.bool b))) h)
    | .one a, .one b => On (nilA P op t a b) fun b => kr P k (.one (.c (.bool b))) h
    | .agg xs, .agg ys => On (eqTA P t) fun fs => On (eqFA P xs ys fs) fun b => (match op with
      | .eql => kr P k (.one (.c (.bool b))) h
      | .neq => kr P k (.one (.c (.bool (!b)))) h
      | _ => False)
    | _, _ => False
theorem o_bin (op : BinOp) (t : TypeId) (x y : Operand) (t2 : TypeId) : opG P (.binOp op t x y t2) f h k = biG P op t (ev f x) (ev f y) h k := _root_.id rfl
theorem b_add (t : TypeId) (a b : Int) : biG P .add t (.one (.c (.int .i64 a))) (.one (.c (.int .i64 b))) h k = kr P k (.one (.c (.int .i64 (wrap64 (a + b))))) h := by simp only [biG, binA, intA, if_true, IntKind.wrap_i64, wrap64]
theorem b_sub (t : TypeId) (a b : Int) : biG P .sub t (.one (.c (.int .i64 a))) (.one (.c (.int .i64 b))) h k = kr P k (.one (.c (.int .i64 (wrap64 (a - b))))) h := by simp only [biG, binA, intA, if_true, IntKind.wrap_i64, wrap64]
theorem b_mul (t : TypeId) (a b : Int) : biG P .mul t (.one (.c (.int .i64 a))) (.one (.c (.int .i64 b))) h k = kr P k (.one (.c (.int .i64 (wrap64 (a * b))))) h := by simp only [biG, binA, intA, if_true, IntKind.wrap_i64, wrap64]
theorem b_quo (t : TypeId) (a b : Int) (hb : b ≠ 0) : biG P .quo t (.one (.c (.int .i64 a))) (.one (.c (.int .i64 b))) h k = kr P k (.one (.c (.int .i64 (wrap64 (a.tdiv b))))) h := by simp only [biG, binA, intA, if_true, if_neg hb, IntKind.wrap_i64, wrap64]
theorem b_rem (t : TypeId) (a b : Int) (hb : b ≠ 0) : biG P .rem t (.one (.c (.int .i64 a))) (.one (.c (.int .i64 b))) h k = kr P k (.one (.c (.int .i64 (a.tmod b)))) h := by simp only [biG, binA, intA, if_true, if_neg hb]
theorem b_eql (t : TypeId) (ki : IntKind) (a b : Int) : biG P .eql t (.one (.c (.int ki a))) (.one (.c (.int ki b))) h k = kr P k (.one (.c (.bool (a == b)))) h := by simp only [biG, binA, intA, if_true]
theorem b_neq (t : TypeId) (ki : IntKind) (a b : Int) : biG P .neq t (.one (.c (.int ki a))) (.one (.c (.int ki b))) h k = kr P k (.one (.c (.bool (!(a == b))))) h := by simp only [biG, binA, intA, if_true]; rfl
theorem b_lss (t : TypeId) (ki : IntKind) (a b : Int) : biG P .lss t (.one (.c (.int ki a))) (.one (.c (.int ki b))) h k = kr P k (.one (.c (.bool (decide (a < b))))) h := by simp only [biG, binA, intA, if_true]
theorem b_leq (t : TypeId) (ki : IntKind) (a b : Int) : biG P .leq t (.one (.c (.int ki a))) (.one (.c (.int ki b))) h k = kr P k (.one (.c (.bool (decide (a ≤ b))))) h := by simp only [biG, binA, intA, if_true]
theorem b_gtr (t : TypeId) (ki : IntKind) (a b : Int) : biG P .gtr t (.one (.c (.int ki a))) (.one (.c (.int ki b))) h k = kr P k (.one (.c (.bool (decide (b < a))))) h := by simp only [biG, binA, intA, if_true, gt_iff_lt]
theorem b_geq (t : TypeId) (ki : IntKind) (a b : Int) : biG P .geq t (.one (.c (.int ki a))) (.one (.c (.int ki b))) h k = kr P k (.one (.c (.bool (decide (b ≤ a))))) h := by simp only [biG, binA, intA, if_true, ge_iff_le]
theorem b_beql (t : TypeId) (a b : Bool) (hb : boolA P t = true) : biG P .eql t (.one (.c (.bool a))) (.one (.c (.bool b))) h k = kr P k (.one (.c (.bool (a == b)))) h := by simp only [biG, binA, hb, if_true]
theorem b_bneq (t : TypeId) (a b : Bool) (hb : boolA P t = true) : biG P .neq t (.one (.c (.bool a))) (.one (.c (.bool b))) h k = kr P k (.one (.c (.bool (!(a == b))))) h := by simp only [biG, binA, hb, if_true]
theorem b_seql (t : TypeId) (a b : ByteArray) : biG P .eql t (.one (.c (.string a))) (.one (.c (.string b))) h k = kr P k (.one (.c (.bool (a.toList == b.toList)))) h := by simp only [biG, binA, strOpA]
theorem b_sneq (t : TypeId) (a b : ByteArray) : biG P .neq t (.one (.c (.string a))) (.one (.c (.string b))) h k = kr P k (.one (.c (.bool (!(a.toList == b.toList))))) h := by simp only [biG, binA, strOpA]
theorem b_sadd (t : TypeId) (a b : ByteArray) (hs : a.size + b.size ≤ 9223372036854775807) : biG P .add t (.one (.c (.string a))) (.one (.c (.string b))) h k = kr P k (.one (.c (.string (a ++ b)))) h := by simp only [biG, binA, strOpA, if_pos hs]
theorem b_any (op : BinOp) (t : TypeId) (a b v : Value) (hv : binA P op t a b = some v) : biG P op t (.one (.c a)) (.one (.c b)) h k = kr P k (.one (.c v)) h := by simp only [biG, hv]
def aqG (P : Program) (b : Option Bool) (n : Bool) (h : AH) (k : Ko) : Prop := On b fun b => kr P k (.one (.c (.bool (if n = true then !b else b)))) h
theorem b_aeql (t : TypeId) (xs ys : List CV) : biG P .eql t (.agg xs) (.agg ys) h k = aqG P ((eqTA P t).bind (eqFA P xs ys)) false h k := by
  simp only [biG, aqG]
  cases eqTA P t <;> simp only [On, Option.bind_some, Option.bind_none, Bool.false_eq_true, if_false]
theorem b_aneq (t : TypeId) (xs ys : List CV) : biG P .neq t (.agg xs) (.agg ys) h k = aqG P ((eqTA P t).bind (eqFA P xs ys)) true h k := by
  simp only [biG, aqG]
  cases eqTA P t <;> simp only [On, Option.bind_some, Option.bind_none, if_true]
theorem aq_f (b : Bool) : aqG P (some b) false h k = kr P k (.one (.c (.bool b))) h := _root_.id rfl
theorem aq_t (b : Bool) : aqG P (some b) true h k = kr P k (.one (.c (.bool (!b)))) h := _root_.id rfl
theorem eq_nil (xs ys : List CV) : eqFA P xs ys [] = some true := _root_.id rfl
def and2 (e q : Option Bool) : Option Bool := match e, q with | some e, some q => some (e && q) | _, _ => none
theorem and2_some (e q : Bool) : and2 (some e) (some q) = some (e && q) := _root_.id rfl
def efG (P : Program) (t : TypeId) (a : Option Bool) (x y : Option CV) (r : Option Bool) : Option Bool := match a, x, y with
  | some false, some (.c a), some (.c b) => and2 (eqVA P t a b) r
  | _, _, _ => none
theorem eq_cons (xs ys : List CV) (t : TypeId) (o : Nat) (r : List (TypeId × Nat)) : eqFA P xs ys ((t, o) :: r) = efG P t (aggA P t) xs[o]? ys[o]? (eqFA P xs ys r) := by
  rw [show eqFA P xs ys ((t, o) :: r) = (match aggA P t, xs[o]?, ys[o]? with
    | some false, some (.c a), some (.c b) => (eqVA P t a b).bind fun e => (eqFA P xs ys r).map (e && ·)
    | _, _, _ => none) from rfl]
  unfold efG
  split
  · cases eqVA P t _ _ <;> cases eqFA P xs ys r <;> rfl
  · rfl
theorem ef_some (t : TypeId) (a b : Value) (r : Option Bool) : efG P t (some false) (some (.c a)) (some (.c b)) r = and2 (eqVA P t a b) r := _root_.id rfl
theorem ev_int (t : TypeId) (ki : IntKind) (a b : Int) (ht : (kindA P t).isSome = true) : eqVA P t (.int ki a) (.int ki b) = some (a == b) := by simp [eqVA, ht]
theorem ev_str (t : TypeId) (a b : ByteArray) (ht : strA P t = true) : eqVA P t (.string a) (.string b) = some (a.toList == b.toList) := by simp [eqVA, ht]
theorem ev_bool (t : TypeId) (a b : Bool) (ht : boolA P t = true) : eqVA P t (.bool a) (.bool b) = some (a == b) := by simp [eqVA, ht]
theorem b_nn (t : TypeId) (ht : (elemA P t).isSome = true) : biG P .eql t (.one (.c (.slice none 0 0))) (.one (.c (.slice none 0 0))) h k = kr P k (.one (.c (.bool true))) h := by simp [biG, binA, nilA, ht, On]
theorem b_sn (t : TypeId) (l k' off len : Nat) (ht : (elemA P t).isSome = true) : biG P .eql t (.one (.sl l k' off len)) (.one (.c (.slice none 0 0))) h k = kr P k (.one (.c (.bool false))) h := by simp [biG, nilA, ht, On]
theorem b_nn' (t : TypeId) (ht : (elemA P t).isSome = true) : biG P .neq t (.one (.c (.slice none 0 0))) (.one (.c (.slice none 0 0))) h k = kr P k (.one (.c (.bool false))) h := by simp [biG, binA, nilA, ht, On]
theorem b_sn' (t : TypeId) (l k' off len : Nat) (ht : (elemA P t).isSome = true) : biG P .neq t (.one (.sl l k' off len)) (.one (.c (.slice none 0 0))) h k = kr P k (.one (.c (.bool true))) h := by simp [biG, nilA, ht, On]
def unG (P : Program) (op : UnOp) (x : AV) (h : AH) (k : Ko) : Prop := match x with
    | .one (.c a) => On (unA op a) fun v => kr P k (.one (.c v)) h
    | _ => False
theorem o_un (op : UnOp) (t : TypeId) (x : Operand) : opG P (.unOp op t x) f h k = unG P op (ev f x) h k := _root_.id rfl
theorem un_not (b : Bool) : unG P .not (.one (.c (.bool b))) h k = kr P k (.one (.c (.bool (!b)))) h := _root_.id rfl
theorem un_neg (a : Int) : unG P .neg (.one (.c (.int .i64 a))) h k = kr P k (.one (.c (.int .i64 (wrap64 (0 - a))))) h := by simp only [unG, unA, On, IntKind.wrap_i64, wrap64]
def exG (P : Program) (x : AV) (i : Nat) (h : AH) (k : Ko) : Prop := match x with
    | .tup xs => vG P xs[i]? h k
    | _ => False
theorem o_extract (x : Operand) (i : Nat) : opG P (.extract x i) f h k = exG P (ev f x) i h k := _root_.id rfl
theorem ex_tup (xs : List AV) (i : Nat) : exG P (.tup xs) i h k = vG P xs[i]? h k := _root_.id rfl
def ncG (P : Program) (x : AV) (h : AH) (k : Ko) : Prop := match x with
    | .one (.ptr l off) => kr P k (.one (.ptr l off)) h
    | _ => False
theorem o_nilCheck (x : Operand) : opG P (.nilCheck x) f h k = ncG P (ev f x) h k := _root_.id rfl
theorem nc_ptr (l off : Nat) : ncG P (.one (.ptr l off)) h k = kr P k (.one (.ptr l off)) h := _root_.id rfl
def lnG (P : Program) (t : TypeId) (x : AV) (h : AH) (k : Ko) : Prop := match x with
        | .one (.c (.string s)) => strA P t = true ∧ kr P k (.one (.c (.int .i64 s.size))) h
        | .one (.c (.slice none 0 0)) => (elemA P t).isSome = true ∧ kr P k (.one (.c (.int .i64 0))) h
        | .one (.sl _ _ _ len) => (elemA P t).isSome = true ∧ kr P k (.one (.c (.int .i64 len))) h
        | .one (.slc _ _ len _) => (elemA P t).isSome = true ∧ kr P k (.one (.c (.int .i64 len))) h
        | _ => False
theorem o_len (x : Operand) (t : TypeId) : opG P (.call { callee := .builtin .len, args := #[x], argTypes := #[t] }) f h k = lnG P t (ev f x) h k := _root_.id rfl
theorem ln_str (t : TypeId) (s : ByteArray) (ht : strA P t = true) : lnG P t (.one (.c (.string s))) h k = kr P k (.one (.c (.int .i64 s.size))) h := by simp [lnG, ht]
theorem ln_nil (t : TypeId) (ht : (elemA P t).isSome = true) : lnG P t (.one (.c (.slice none 0 0))) h k = kr P k (.one (.c (.int .i64 0))) h := by simp [lnG, ht]
theorem ln_sl (t : TypeId) (l k' off len : Nat) (ht : (elemA P t).isSome = true) : lnG P t (.one (.sl l k' off len)) h k = kr P k (.one (.c (.int .i64 len))) h := by simp [lnG, ht]
theorem ln_slc (t : TypeId) (l off len cap : Nat) (ht : (elemA P t).isSome = true) : lnG P t (.one (.slc l off len cap)) h k = kr P k (.one (.c (.int .i64 len))) h := by simp [lnG, ht]
/-- A call, in the words of a contract. -/
def caG (P : Program) (g : AV) (args : List AV) (h : AH) (k : Ko) : Prop := match g with
      | .one (.clo g caps) => ACalls P g (args ++ caps.map fun l => .one (.ptr l 0)) h (kr P k)
      | _ => False
theorem o_call (g : Operand) (args : Array Operand) (ts : Array TypeId) : opG P (.call { callee := .value g, args := args, argTypes := ts }) f h k = caG P (ev f g) (args.toList.map (ev f)) h k := _root_.id rfl
theorem ca_fn (g : Nat) (args : List AV) : caG P (.one (.clo g [])) args h k = ACalls P g args h (kr P k) := by simp [caG]
theorem ca_clo (g : Nat) (caps : List Nat) (args : List AV) : caG P (.one (.clo g caps)) args h k = ACalls P g (args ++ caps.map fun l => .one (.ptr l 0)) h (kr P k) := _root_.id rfl
theorem c_val (v : Value) (hv : v.oneCell' = true) : cellsA (.one (.c v)) = some [.c v] := by simp [cellsA, hv]
theorem c_int (ki : IntKind) (n : Int) : cellsA (.one (.c (.int ki n))) = some [.c (.int ki n)] := _root_.id rfl
theorem c_bool (b : Bool) : cellsA (.one (.c (.bool b))) = some [.c (.bool b)] := _root_.id rfl
theorem c_str (s : ByteArray) : cellsA (.one (.c (.string s))) = some [.c (.string s)] := _root_.id rfl
theorem c_nil (a : Option Addr) (n c : Nat) : cellsA (.one (.c (.slice a n c))) = some [.c (.slice a n c)] := _root_.id rfl
theorem c_ptr (l o : Nat) : cellsA (.one (.ptr l o)) = some [.ptr l o] := _root_.id rfl
theorem c_sl (l k o n : Nat) : cellsA (.one (.sl l k o n)) = some [.sl l k o n] := _root_.id rfl
theorem c_slc (l o n c : Nat) : cellsA (.one (.slc l o n c)) = some [.slc l o n c] := _root_.id rfl
theorem c_clo (g : Nat) (caps : List Nat) : cellsA (.one (.clo g caps)) = some [.clo g caps] := _root_.id rfl
theorem c_agg (xs : List CV) : cellsA (.agg xs) = some xs := _root_.id rfl
def paG (a : Option Bool) (n : Option Nat) (cs : List CV) (off : Nat) : Option AV := match a with
  | some true => (match n with | some n => if off + n ≤ cs.length then some (.agg ((cs.drop off).take n)) else none | none => none)
  | some false => (cs[off]?).map .one
  | none => none
theorem p_any (t : TypeId) (cs : List CV) (off : Nat) : partA P t cs off = paG (aggA P t) (sizeA P t) cs off := _root_.id rfl
theorem p_one (n : Option Nat) (cs : List CV) (off : Nat) : paG (some false) n cs off = (cs[off]?).map .one := _root_.id rfl
theorem p_agg (n : Nat) (cs : List CV) (off : Nat) : paG (some true) (some n) cs off = if off + n ≤ cs.length then some (.agg ((cs.drop off).take n)) else none := _root_.id rfl
end
/-! ### The heap's own steps -/
theorem h_cons {h : AH} (a b : AH) : (h ++ a) ++ b = h ++ (a ++ b) := List.append_assoc ..
theorem h_len (h : AH) (a : AH) : (h ++ a).length = h.length + a.length := List.length_append
theorem h_at (h a : AH) (i : Nat) : (h ++ a)[h.length + i]? = a[i]? := by rw [List.getElem?_append_right (by omega)]; congr 1; omega
theorem h_at0 (h a : AH) : (h ++ a)[h.length]? = a[0]? := by rw [List.getElem?_append_right (by omega)]; congr 1; omega
theorem h_old {h : AH} {l : Nat} {o : AO} (a : AH) (hl : h[l]? = some o) : (h ++ a)[l]? = some o := by rw [List.getElem?_append_left (List.getElem?_eq_some_iff.1 hl).1]; exact hl
theorem h_set (h a : AH) (i : Nat) (o : AO) : (h ++ a).set (h.length + i) o = h ++ a.set i o := by rw [List.set_append_right _ _ (by omega)]; congr 2; omega
theorem h_set0 (h a : AH) (o : AO) : (h ++ a).set h.length o = h ++ a.set 0 o := by rw [List.set_append_right _ _ (by omega)]; congr 2; omega
theorem cset_nil (cs : List CV) (off : Nat) : cset cs off [] = cs := by simp [cset]
theorem cset_cons (cs : List CV) (off : Nat) (v : CV) (vs : List CV) : cset cs off (v :: vs) = cset (cs.set off v) (off + 1) vs := by simp [cset]

/-! ### What a function hands back -/
def plainV : AV → Bool
  | .one (.c _) => true
  | .agg xs => xs.all fun | .c v => v.oneCell' | _ => false
  | .tup xs => go xs
  | _ => false
where go : List AV → Bool
  | [] => true
  | x :: r => plainV x && go r
/-- Plain results; all objects that stood before stand as they stood: what was made is forgotten. -/
def ARetP (P : Program) (rs : List ResultVar) (h0 : AH) (K : AV → AH → Prop) (f : AF) (h : AH) : Prop :=
  On (rs.mapM (resOne P f h)) fun vs => (∃ ext, h = h0 ++ ext) ∧ plainV (oneOrTup vs) = true ∧ K (oneOrTup vs) h0
mutual
theorem plain_wf (m : Nat) : ∀ {v : AV}, plainV v = true → v.wf m
  | .one (.c v), _ => wf_c m v
  | .one (.ptr _ _), h => by simp [plainV] at h
  | .one (.sl _ _ _ _), h => by simp [plainV] at h
  | .one (.slc _ _ _ _), h => by simp [plainV] at h
  | .one (.clo _ _), h => by simp [plainV] at h
  | .agg xs, h => by
    unfold AV.wf
    intro x hx
    unfold plainV at h
    have := (List.all_eq_true.1 h) x hx
    cases x <;> simp at this
    exact this
  | .tup xs, h => by
    unfold AV.wf
    unfold plainV at h
    exact plains_wf m h
theorem plains_wf (m : Nat) : ∀ {xs : List AV}, plainV.go xs = true → AV.wfs m xs
  | [], _ => by unfold AV.wfs; trivial
  | x :: r, h => by
    unfold plainV.go at h
    rw [Bool.and_eq_true] at h
    unfold AV.wfs
    exact ⟨plain_wf m h.1, plains_wf m h.2⟩
end

section
variable {P : Program}
/-- A contract of a function with plain results that leaves all objects as they were. -/
theorem acall_p {g : Nat} {fn : Func} {c : Code} {args : List AV} {h : AH} {K : AV → AH → Prop} (rs : List ResultVar) (hmo : P.follows .mixedOrders = true) (hf : P.funcs[g]? = some fn) (hrs : fn.results.toList = rs) (hbody : fn.body = some c) (hB : (codeB fn.ntmps c && fnB fn && hasBody P g && decide (args.length ≤ fn.ntmps)) = true)
    (H : ∀ Q : QT, (∀ f h', ARetP P rs h K f h' → Q .ret f h') → goG P c [] Q (frame0 args) h) : ACalls P g args h K := by
  simp only [Bool.and_eq_true, decide_eq_true_eq] at hB
  have H1 := H (fun e f h' => match e with | .ret => ARetP P rs h K f h' | _ => False) (fun f h' hh => hh)
  refine acall_gen (K := K) hmo hf hbody hB.1.1.1 hB.1.1.2 hB.1.2 hB.2 _ ?_ H1
  intro base w0 φ w R f h'
  refine ⟨fun hq => ?_, fun id hq => hq⟩
  have hq : ARetP P rs h K f h' := hq.elim (fun q => q.elim) id
  unfold ARetP at hq
  obtain ⟨vs, hvs, ⟨ext, rfl⟩, hp, hk⟩ := hq.elim
  unfold ARet
  rw [hrs, hvs]
  refine ⟨h.length, Nat.le_refl _, by simp, plain_wf _ hp, fun l o hl ho => ?_, by simpa using hk⟩
  rw [List.getElem?_append_left hl] at ho
  exact R.wf l o ho
/-- The end of such a function. -/
def retG (r : Option (List AV)) (h0 : AH) (K : AV → AH → Prop) (h : AH) : Prop := On r fun vs => (∃ ext, h = h0 ++ ext) ∧ plainV (oneOrTup vs) = true ∧ K (oneOrTup vs) h0
def cons2 (v : Option AV) (r : Option (List AV)) : Option (List AV) := v.bind fun v => r.map (v :: ·)
theorem cons2_some (v : AV) (r : List AV) : cons2 (some v) (some r) = some (v :: r) := _root_.id rfl
def rsG (P : Program) (f : AF) (h : AH) : List ResultVar → Option (List AV)
  | [] => some []
  | r :: rs => cons2 (resOne P f h r) (rsG P f h rs)
theorem rsG_eq (f : AF) (h : AH) : ∀ rs : List ResultVar, rs.mapM (resOne P f h) = rsG P f h rs
  | [] => by simp [rsG]
  | r :: rs => by rw [List.mapM_cons, rsG_eq f h rs, rsG]; cases resOne P f h r <;> simp [cons2]; cases rsG P f h rs <;> simp
theorem rs_nil (f : AF) (h : AH) : rsG P f h [] = some [] := _root_.id rfl
theorem rs_cons (f : AF) (h : AH) (r : ResultVar) (rs : List ResultVar) : rsG P f h (r :: rs) = cons2 (resOne P f h r) (rsG P f h rs) := _root_.id rfl
theorem rs_tmp (f : AF) (h : AH) (t : Nat) : resOne P f h (.tmp t) = some (f t) := _root_.id rfl
def rcG (P : Program) (t : TypeId) (a : AV) (h : AH) : Option AV := match a with | .one (.ptr l off) => ldA P t h[l]? off | _ => none
theorem rs_cell (f : AF) (h : AH) (a : Nat) (t : TypeId) : resOne P f h (.cell a t) = rcG P t (f a) h := _root_.id rfl
theorem rc_ptr (h : AH) (l off : Nat) (t : TypeId) : rcG P t (.one (.ptr l off)) h = ldA P t h[l]? off := _root_.id rfl
theorem ret_p (rs : List ResultVar) (h0 : AH) (K : AV → AH → Prop) (f : AF) (h : AH) : ARetP P rs h0 K f h = retG (rsG P f h rs) h0 K h := by rw [← rsG_eq]; rfl
theorem ret_g (vs : List AV) (h0 ext : AH) (K : AV → AH → Prop) : retG (some vs) h0 K (h0 ++ ext) = (plainV (oneOrTup vs) = true ∧ K (oneOrTup vs) h0) := by simp [retG, On]
theorem ret_g0 (vs : List AV) (h0 : AH) (K : AV → AH → Prop) : retG (some vs) h0 K h0 = (plainV (oneOrTup vs) = true ∧ K (oneOrTup vs) h0) := by simp only [retG, On, eq_iff_iff]; exact ⟨fun q => q.2, fun q => ⟨⟨[], by simp⟩, q⟩⟩
theorem ot_1 (v : AV) : oneOrTup [v] = v := _root_.id rfl
theorem ot_2 (v u : AV) (r : List AV) : oneOrTup (v :: u :: r) = .tup (v :: u :: r) := _root_.id rfl
theorem pv_c (v : Value) : plainV (.one (.c v)) = true := by simp [plainV]
def pvs : List CV → Bool
  | [] => true
  | .c v :: r => v.oneCell' && pvs r
  | _ :: _ => false
theorem pv_agg (xs : List CV) : plainV (.agg xs) = pvs xs := by
  unfold plainV
  induction xs with
  | nil => rfl
  | cons x r ih => cases x <;> simp [pvs, ih]
theorem pvs_nil : pvs [] = true := _root_.id rfl
theorem pvs_int (k : IntKind) (n : Int) (r : List CV) : pvs (.c (.int k n) :: r) = pvs r := by simp [pvs, Value.oneCell']
theorem pvs_bool (b : Bool) (r : List CV) : pvs (.c (.bool b) :: r) = pvs r := by simp [pvs, Value.oneCell']
theorem pvs_str (s : ByteArray) (r : List CV) : pvs (.c (.string s) :: r) = pvs r := by simp [pvs, Value.oneCell']
end
end Go.AL
