/- Further operations as rewriting steps: structs and slices built, made, cut and appended to, strings and bytes. Conditions: none. -/
import Derived.Test.YtjfmfcdempkpdaaA9
import Derived.ChangeArms
import Derived.Carry
namespace Go.AL
open Go.RowKit
set_option linter.unusedVariables false
set_option linter.unusedSimpArgs false
section
variable (P : Program) (f : AF) (h : AH) (k : Ko)
/-! ### Structs built -/
def pt2 (i : Nat) (v : Option (List CV)) (r : Option (List (Nat × List CV))) : Option (List (Nat × List CV)) := match v, r with | some cs, some q => some ((i, cs) :: q) | _, _ => none
theorem pt_nil : partsA f [] = some [] := _root_.id rfl
theorem pt_cons (i : Nat) (x : Operand) (r : List (Nat × Operand)) : partsA f ((i, x) :: r) = pt2 i (cellsA (ev f x)) (partsA f r) := _root_.id rfl
theorem pt2_some (i : Nat) (v : List CV) (r : List (Nat × List CV)) : pt2 i (some v) (some r) = some ((i, v) :: r) := _root_.id rfl
def flG (pl : List (Nat × Nat)) (z : List CV) (ps : List (Nat × List CV)) : Option (List CV) := fillA (fun i => pl[i]?) z ps
def fl2 (q : Option (Nat × Nat)) (pl : List (Nat × Nat)) (z v : List CV) (ps : List (Nat × List CV)) : Option (List CV) := match q with | some (off, size) => if v.length = size ∧ off + size ≤ z.length then flG pl (cset z off v) ps else none | none => none
theorem fl_nil (pl : List (Nat × Nat)) (z : List CV) : flG pl z [] = some z := _root_.id rfl
theorem fl_cons (pl : List (Nat × Nat)) (z v : List CV) (i : Nat) (ps : List (Nat × List CV)) : flG pl z ((i, v) :: ps) = fl2 pl[i]? pl z v ps := by
  simp only [flG, fl2, fillA]
  cases pl[i]? <;> rfl
theorem fl2_some (off size : Nat) (pl : List (Nat × Nat)) (z v : List CV) (ps : List (Nat × List CV)) : fl2 (some (off, size)) pl z v ps = if v.length = size ∧ off + size ≤ z.length then flG pl (cset z off v) ps else none := _root_.id rfl
def bdG (P : Program) (pl : Option (List (Nat × Nat))) (z : Option (List CV)) (ps : Option (List (Nat × List CV))) (h : AH) (k : Ko) : Prop := On pl fun pl => On z fun z => On ps fun ps => On (fillA (pl[·]?) z ps) fun cs => kr P k (.agg cs) h
def agG (P : Program) (cs : Option (List CV)) (h : AH) (k : Ko) : Prop := On cs fun cs => kr P k (.agg cs) h
theorem o_build (t : TypeId) (parts : Array (Nat × Operand)) : opG P (.build t parts) f h k = bdG P (placesA P t) (zeroA P t) (partsA f parts.toList) h k := _root_.id rfl
theorem bd_some (pl : List (Nat × Nat)) (z : List CV) (ps : List (Nat × List CV)) : bdG P (some pl) (some z) (some ps) h k = agG P (flG pl z ps) h k := _root_.id rfl
theorem ag_some (cs : List CV) : agG P (some cs) h k = kr P k (.agg cs) h := _root_.id rfl
/-! ### Slices built -/
def fsG (n : Nat) (z : List CV) (ps : List (Nat × List CV)) : Option (List CV) := fillA (fun i => some (i * n, n)) z ps
theorem fs_nil (n : Nat) (z : List CV) : fsG n z [] = some z := _root_.id rfl
theorem fs_cons (n : Nat) (z v : List CV) (i : Nat) (ps : List (Nat × List CV)) : fsG n z ((i, v) :: ps) = if v.length = n ∧ i * n + n ≤ z.length then fsG n (cset z (i * n) v) ps else none := by simp only [fsG, fillA]
def bsG (P : Program) (e : Option TypeId) (len : Nat) (ps : Option (List (Nat × List CV))) (h : AH) (k : Ko) : Prop := On e fun e => On (sizeA P e) fun n => On (zeroA P e) fun z => On ps fun ps => z.length = n ∧ 0 < n ∧ len * n ≤ 16777216 ∧ len ≤ maxLen ∧
      On (fillA (fun i => some (i * n, n)) (repCV z len) ps) fun cs => kr P k (.one (.sl h.length n 0 len)) (h ++ [.own e n true cs])
def bs2 (P : Program) (e : TypeId) (n : Option Nat) (z : Option (List CV)) (len : Nat) (ps : Option (List (Nat × List CV))) (h : AH) (k : Ko) : Prop := On n fun n => On z fun z => On ps fun ps => z.length = n ∧ 0 < n ∧ len * n ≤ 16777216 ∧ len ≤ maxLen ∧
      On (fillA (fun i => some (i * n, n)) (repCV z len) ps) fun cs => kr P k (.one (.sl h.length n 0 len)) (h ++ [.own e n true cs])
def bs3 (P : Program) (e n len : Nat) (cs : Option (List CV)) (h : AH) (k : Ko) : Prop := On cs fun cs => kr P k (.one (.sl h.length n 0 len)) (h ++ [.own e n true cs])
theorem o_buildSlice (t : TypeId) (len : Nat) (parts : Array (Nat × Operand)) : opG P (.buildSlice t len parts) f h k = bsG P (elemA P t) len (partsA f parts.toList) h k := _root_.id rfl
theorem bs_some (e : TypeId) (len : Nat) (ps : Option (List (Nat × List CV))) : bsG P (some e) len ps h k = bs2 P e (sizeA P e) (zeroA P e) len ps h k := _root_.id rfl
theorem bs2_some (e n len : Nat) (z : List CV) (ps : List (Nat × List CV)) : bs2 P e (some n) (some z) len (some ps) h k = (z.length = n ∧ 0 < n ∧ len * n ≤ 16777216 ∧ len ≤ maxLen ∧ bs3 P e n len (fsG n (repCV z len) ps) h k) := _root_.id rfl
theorem bs3_some (e n len : Nat) (cs : List CV) : bs3 P e n len (some cs) h k = kr P k (.one (.sl h.length n 0 len)) (h ++ [.own e n true cs]) := _root_.id rfl
theorem rep_zero (cs : List CV) : repCV cs 0 = [] := _root_.id rfl
theorem rep_succ (cs : List CV) (n : Nat) : repCV cs (n + 1) = cs ++ repCV cs n := _root_.id rfl
theorem le_maxLen (n : Nat) (hn : n ≤ 1000000) : (n ≤ maxLen) = True := by
  have : (1000000 : Nat) ≤ maxLen := by decide
  exact eq_true (Nat.le_trans hn this)
/-! ### Slices made -/
def mkG (P : Program) (e : Option TypeId) (l c : Option Nat) (h : AH) (k : Ko) : Prop := On e fun e => On (sizeA P e) fun n => On (zeroA P e) fun z => On (bytesA P e) fun by_ => On l fun m => On c fun n2 => n2 = m ∧ z.length = n ∧ 0 < n ∧ by_ * m ≤ 281474976710656 ∧ m ≤ maxLen ∧
      kr P k (.one (.sl h.length n 0 m)) (h ++ [.own e n true (repCV z m)])
theorem o_makeSlice (t : TypeId) (l c : Operand) : opG P (.makeSlice t l c) f h k = mkG P (elemA P t) (boundA 0 (some (ev f l))) (boundA 0 (some (ev f c))) h k := _root_.id rfl
def mk2 (P : Program) (e : TypeId) (n : Option Nat) (z : Option (List CV)) (b : Option Nat) (m : Nat) (h : AH) (k : Ko) : Prop := On n fun n => On z fun z => On b fun by_ => z.length = n ∧ 0 < n ∧ by_ * m ≤ 281474976710656 ∧ m ≤ maxLen ∧ kr P k (.one (.sl h.length n 0 m)) (h ++ [.own e n true (repCV z m)])
theorem mk_some (e : TypeId) (m : Nat) : mkG P (some e) (some m) (some m) h k = mk2 P e (sizeA P e) (zeroA P e) (bytesA P e) m h k := by simp only [mkG, mk2, On, true_and]
theorem mk2_some (e n m b : Nat) (z : List CV) : mk2 P e (some n) (some z) (some b) m h k = (z.length = n ∧ 0 < n ∧ b * m ≤ 281474976710656 ∧ m ≤ maxLen ∧ kr P k (.one (.sl h.length n 0 m)) (h ++ [.own e n true (repCV z m)])) := _root_.id rfl
theorem bd_none (len : Nat) : boundA len none = some len := _root_.id rfl
theorem bd_int (len : Nat) (ki : IntKind) (i : Int) : boundA len (some (.one (.c (.int ki i)))) = if 0 ≤ i then some i.toNat else none := _root_.id rfl
/-! ### Cuts -/
def slG (P : Program) (t : TypeId) (v : AV) (lo hi mx : Option AV) (h : AH) (k : Ko) : Prop := match v with
    | .one (.c (.string s)) => strA P t = true ∧ mx.isNone = true ∧ On (boundA 0 lo) fun i => On (boundA s.size hi) fun j => i ≤ j ∧ j ≤ s.size ∧ kr P k (.one (.c (.string (s.extract i j)))) h
    | .one (.c (.slice none 0 0)) => On (elemA P t) fun e => (sizeA P e).isSome = true ∧ On (boundA 0 lo) fun i => On (boundA 0 hi) fun j => On (boundA 0 mx) fun m => i = 0 ∧ j = 0 ∧ m = 0 ∧ (mx.isSome = true → hi.isSome = true) ∧ kr P k (.one (.c (.slice none 0 0))) h
    | .one (.sl l k' off len) => On (elemA P t) fun e => sizeA P e = some k' ∧ 0 < k' ∧ On (h[l]?) fun o => off + len * k' ≤ o.cs.length ∧ On (boundA 0 lo) fun i => On (boundA len hi) fun j => i ≤ j ∧ j ≤ len ∧ (match mx with
      | none => if i < len ∨ i = 0 then kr P k (.one (.sl l k' (off + i * k') (j - i))) h else kr P k (.one (.sl l k' (off + i * k') (j - i))) h ∧ kr P k (.one (.slc l off 0 0)) h
      | some m0 => On (boundA 0 (some m0)) fun m => j ≤ m ∧ m ≤ len ∧ hi.isSome = true ∧ kr P k (.one (.slc l (if m = i then off else off + i * k') (j - i) (m - i))) h)
    | _ => False
theorem o_slice (t : TypeId) (x : Operand) (lo hi mx : Option Operand) : opG P (.slice t x lo hi mx) f h k = slG P t (ev f x) (lo.map (ev f)) (hi.map (ev f)) (mx.map (ev f)) h k := by
  simp only [opG, aop, slG, Option.isNone_map, Option.isSome_map]
  cases mx <;> rfl
def ssG (P : Program) (b : Bool) (s : ByteArray) (i j : Option Nat) (h : AH) (k : Ko) : Prop := b = true ∧ On i fun i => On j fun j => i ≤ j ∧ j ≤ s.size ∧ kr P k (.one (.c (.string (s.extract i j)))) h
theorem sl_str (t : TypeId) (s : ByteArray) (lo hi : Option AV) : slG P t (.one (.c (.string s))) lo hi none h k = ssG P (strA P t) s (boundA 0 lo) (boundA s.size hi) h k := by simp [slG, ssG]
theorem ss_some (s : ByteArray) (i j : Nat) : ssG P true s (some i) (some j) h k = (i ≤ j ∧ j ≤ s.size ∧ kr P k (.one (.c (.string (s.extract i j)))) h) := by simp only [ssG, true_and, On]
/-- A slice cut with no third bound. -/
def sxG (P : Program) (n : Option Nat) (l k' off len : Nat) (o : Option AO) (i j : Option Nat) (h : AH) (k : Ko) : Prop := n = some k' ∧ 0 < k' ∧ On o fun o => off + len * k' ≤ o.cs.length ∧ On i fun i => On j fun j => i ≤ j ∧ j ≤ len ∧ (if i < len ∨ i = 0 then kr P k (.one (.sl l k' (off + i * k') (j - i))) h else kr P k (.one (.sl l k' (off + i * k') (j - i))) h ∧ kr P k (.one (.slc l off 0 0)) h)
theorem sl_sl (t : TypeId) (l k' off len : Nat) (lo hi : Option AV) : slG P t (.one (.sl l k' off len)) lo hi none h k = sxG P ((elemA P t).bind (sizeA P)) l k' off len h[l]? (boundA 0 lo) (boundA len hi) h k := by
  simp only [slG, sxG]
  cases elemA P t <;> simp [On]
theorem sl_nil (t : TypeId) (lo hi : Option AV) (e : TypeId) (n : Nat) (he : elemA P t = some e) (hn : sizeA P e = some n) (h1 : boundA 0 lo = some 0) (h2 : boundA 0 hi = some 0) : slG P t (.one (.c (.slice none 0 0))) lo hi none h k = kr P k (.one (.c (.slice none 0 0))) h := by simp [slG, he, hn, On, h1, h2, bd_none]
/-! ### Closures -/
def capA (f : AF) : List Operand → Option (List Nat)
  | [] => some []
  | x :: r => match ev f x, capA f r with | .one (.ptr l 0), some q => some (l :: q) | _, _ => none
def cap2 (v : AV) (r : Option (List Nat)) : Option (List Nat) := match v, r with | .one (.ptr l 0), some q => some (l :: q) | _, _ => none
theorem cap_eq (f : AF) : ∀ xs : List Operand, (xs.mapM fun x => match ev f x with | .one (.ptr l 0) => some l | _ => none) = capA f xs
  | [] => by simp [capA]
  | x :: r => by
    rw [List.mapM_cons, cap_eq f r]
    show _ = (match ev f x, capA f r with | .one (.ptr l 0), some q => some (l :: q) | _, _ => none)
    cases hx : ev f x with
    | one c =>
      cases c with
      | ptr l o => cases o <;> cases capA f r <;> simp
      | _ => simp
    | _ => simp
theorem cap_nil : capA f [] = some [] := _root_.id rfl
theorem cap_cons (x : Operand) (r : List Operand) : capA f (x :: r) = cap2 (ev f x) (capA f r) := _root_.id rfl
theorem cap2_some (l : Nat) (r : List Nat) : cap2 (.one (.ptr l 0)) (some r) = some (l :: r) := _root_.id rfl
def mfG (P : Program) (g : Nat) (b : Bool) (ls : Option (List Nat)) (h : AH) (k : Ko) : Prop := b = true ∧ On ls fun ls => kr P k (.one (.clo g ls)) h
theorem o_makeFunc (g : Nat) (first captured : Array Operand) : opG P (.makeFunc (.func g) first captured) f h k = mfG P g (first.size == 0) (capA f captured.toList) h k := by
  simp only [opG, aop, mfG, beq_iff_eq]
  rw [← cap_eq]
  rfl
theorem mf_some (g : Nat) (ls : List Nat) : mfG P g true (some ls) h k = kr P k (.one (.clo g ls)) h := by simp only [mfG, On, true_and]
/-! ### Conversions -/
def cvG (P : Program) (src dst : TypeId) (v : AV) (f : AF) (x : Operand) (h : AH) (k : Ko) : Prop := match v with
    | .one (.c (.string s)) => if strA P dst = true then (P.underlying src).isSome = true ∧ kr P k (.one (.c (.string s))) h else strA P src = true ∧ On (elemA P dst) fun e => kindA P e = some .u8 ∧ s.size ≤ maxLen ∧
        (kr P k (.one (.sl h.length 1 0 s.size)) (h ++ [.own e 0 false (bytesCV s)]))
    | .one (.c (.int ki n)) => (match kindA P dst with
      | some k' => (P.underlying src).isSome = true ∧ kr P k (.one (.c (.int k' (k'.wrap n)))) h
      | _ => False)
    | v => strA P dst = true ∧ On (elemA P src) fun e => kindA P e = some .u8 ∧ On (rowA h 1 v) fun r => On (intsOf r.2) fun xs => kr P k (.one (.c (.string (strOfNums xs)))) h
theorem o_convert (src dst : TypeId) (x : Operand) : opG P (.convert src dst x) f h k = cvG P src dst (ev f x) f x h k := by
  simp only [opG, aop, cvG]
  split
  · rename_i s hs
    simp only [hs]
  · rename_i ki n hx
    simp only [aop1, hx]
    cases kindA P dst <;> rfl
  · rename_i h1 h2
    split
    · rename_i s hs; exact absurd hs (h1 s)
    · rename_i ki n hs; exact absurd hs (h2 ki n)
    · rfl
def ciG (P : Program) (ki : Option IntKind) (b : Bool) (n : Int) (h : AH) (k : Ko) : Prop := match ki with | some k' => b = true ∧ kr P k (.one (.c (.int k' (k'.wrap n)))) h | none => False
theorem cv_int (src dst : TypeId) (ki : IntKind) (n : Int) (x : Operand) : cvG P src dst (.one (.c (.int ki n))) f x h k = ciG P (kindA P dst) (P.underlying src).isSome n h k := by
  simp only [cvG, ciG]
  cases kindA P dst <;> rfl
theorem ci_some (ki : IntKind) (n : Int) : ciG P (some ki) true n h k = kr P k (.one (.c (.int ki (ki.wrap n)))) h := by simp only [ciG, true_and]
def csG (P : Program) (d s : Bool) (u : Bool) (e : Option TypeId) (t : ByteArray) (h : AH) (k : Ko) : Prop := if d = true then u = true ∧ kr P k (.one (.c (.string t))) h else s = true ∧ On e fun e => kindA P e = some .u8 ∧ t.size ≤ maxLen ∧ kr P k (.one (.sl h.length 1 0 t.size)) (h ++ [.own e 0 false (bytesCV t)])
theorem cv_str (src dst : TypeId) (t : ByteArray) (x : Operand) : cvG P src dst (.one (.c (.string t))) f x h k = csG P (strA P dst) (strA P src) (P.underlying src).isSome (elemA P dst) t h k := _root_.id rfl
theorem cs_ss (s : Bool) (e : Option TypeId) (t : ByteArray) : csG P true s true e t h k = kr P k (.one (.c (.string t))) h := by simp only [csG, if_true, true_and]
theorem cs_sb (u : Bool) (e : TypeId) (t : ByteArray) : csG P false true u (some e) t h k = (kindA P e = some .u8 ∧ t.size ≤ maxLen ∧ kr P k (.one (.sl h.length 1 0 t.size)) (h ++ [.own e 0 false (bytesCV t)])) := by simp only [csG, Bool.false_eq_true, if_false, true_and, On]
def sbG (P : Program) (b : Bool) (e : Option TypeId) (r : Option (Nat × List CV)) (h : AH) (k : Ko) : Prop := b = true ∧ On e fun e => kindA P e = some .u8 ∧ On r fun r => On (intsOf r.2) fun xs => kr P k (.one (.c (.string (strOfNums xs)))) h
theorem cv_sl (src dst : TypeId) (l k' off len : Nat) (x : Operand) : cvG P src dst (.one (.sl l k' off len)) f x h k = sbG P (strA P dst) (elemA P src) (rowA h 1 (.one (.sl l k' off len))) h k := _root_.id rfl
theorem cv_slc (src dst : TypeId) (l off len cap : Nat) (x : Operand) : cvG P src dst (.one (.slc l off len cap)) f x h k = sbG P (strA P dst) (elemA P src) (rowA h 1 (.one (.slc l off len cap))) h k := _root_.id rfl
theorem cv_nil (src dst : TypeId) (x : Operand) : cvG P src dst (.one (.c (.slice none 0 0))) f x h k = sbG P (strA P dst) (elemA P src) (rowA h 1 (.one (.c (.slice none 0 0)))) h k := _root_.id rfl
def soG (P : Program) (xs : Option (List Int)) (h : AH) (k : Ko) : Prop := On xs fun xs => kr P k (.one (.c (.string (strOfNums xs)))) h
theorem sb_some (e : TypeId) (n : Nat) (cs : List CV) : sbG P true (some e) (some (n, cs)) h k = (kindA P e = some .u8 ∧ soG P (intsOf cs) h k) := by simp only [sbG, true_and, On, soG]
theorem so_some (xs : List Int) : soG P (some xs) h k = kr P k (.one (.c (.string (strOfNums xs)))) h := _root_.id rfl
def ics2 (x : Int) (r : Option (List Int)) : Option (List Int) := r.map (x :: ·)
theorem is_nil : intsOf [] = some [] := _root_.id rfl
theorem is_cons (x : Int) (r : List CV) : intsOf (.c (.int .u8 x) :: r) = ics2 x (intsOf r) := _root_.id rfl
theorem ics2_some (x : Int) (r : List Int) : ics2 x (some r) = some (x :: r) := _root_.id rfl
/-! ### Appends and the small ones -/
def apG (P : Program) (e : Option TypeId) (b : Bool) (s x : AV) (h : AH) (k : Ko) : Prop := On e fun e => On (sizeA P e) fun n => On (bytesA P e) fun by_ => On (zeroA P e) fun z => z.length = n ∧ 0 < n ∧ 0 < by_ ∧ b = true ∧ On (rowA h n x) fun r => appA e n by_ h s r.1 r.2 (kr P k)
theorem o_append (s x : Operand) (t t2 : TypeId) : opG P (.call { callee := .builtin .append, args := #[s, x], argTypes := #[t, t2] }) f h k = apG P (elemA P t) ((elemA P t2).isSome || strA P t2) (ev f s) (ev f x) h k := _root_.id rfl
def apR (P : Program) (e n by_ : Nat) (s : AV) (r : Option (Nat × List CV)) (h : AH) (k : Ko) : Prop := On r fun r => appA e n by_ h s r.1 r.2 (kr P k)
def ap3 (P : Program) (e : TypeId) (n by_ : Option Nat) (z : Option (List CV)) (b : Bool) (s x : AV) (h : AH) (k : Ko) : Prop := On n fun n => On by_ fun by_ => On z fun z => z.length = n ∧ 0 < n ∧ 0 < by_ ∧ b = true ∧ apR P e n by_ s (rowA h n x) h k
theorem ap_some (e : TypeId) (b : Bool) (s x : AV) : apG P (some e) b s x h k = ap3 P e (sizeA P e) (bytesA P e) (zeroA P e) b s x h k := _root_.id rfl
theorem ap3_some (e n by_ : Nat) (z : List CV) (b : Bool) (s x : AV) : ap3 P e (some n) (some by_) (some z) b s x h k = (z.length = n ∧ 0 < n ∧ 0 < by_ ∧ b = true ∧ apR P e n by_ s (rowA h n x) h k) := _root_.id rfl
def rwG (o : Option AO) (n off len : Nat) : Option (Nat × List CV) := o.bind fun o => if off + len * n ≤ o.cs.length then some (len, (o.cs.drop off).take (len * n)) else none
theorem row_sl (n l k' off len : Nat) : rowA h n (.one (.sl l k' off len)) = if k' = n then rwG h[l]? n off len else none := _root_.id rfl
theorem row_slc (n l off len cap : Nat) : rowA h n (.one (.slc l off len cap)) = rwG h[l]? n off len := _root_.id rfl
theorem row_nil (n : Nat) : rowA h n (.one (.c (.slice none 0 0))) = some (0, []) := _root_.id rfl
theorem row_str (s : ByteArray) : rowA h 1 (.one (.c (.string s))) = some (s.size, bytesCV s) := _root_.id rfl
theorem rw_some (o : AO) (n off len : Nat) : rwG (some o) n off len = if off + len * n ≤ o.cs.length then some (len, (o.cs.drop off).take (len * n)) else none := _root_.id rfl
/-- What was outgrown is let go. -/
def killG (full : Bool) (l : Nat) (h : AH) : AH := if full = true then h else h.set l .dead
theorem kill_len (full : Bool) (l : Nat) (h : AH) : (killG full l h).length = h.length := by unfold killG; split <;> simp
theorem kill_app (full : Bool) (i : Nat) (h a : AH) : killG full (h.length + i) (h ++ a) = h ++ killG full i a := by unfold killG; split; rfl; exact h_set h a i _
theorem kill_app0 (full : Bool) (h a : AH) : killG full h.length (h ++ a) = h ++ killG full 0 a := by unfold killG; split; rfl; exact h_set0 h a _
theorem kill_cons (full : Bool) (i : Nat) (b : AO) (a : AH) : killG full (i + 1) (b :: a) = b :: killG full i a := by unfold killG; split <;> rfl
theorem kill_ne {full : Bool} {i j : Nat} {a : AH} (hne : j ≠ i) : (killG full i a)[j]? = a[j]? := by unfold killG; split; rfl; rw [List.getElem?_set_ne (Ne.symm hne)]
theorem ap_exact {e n by_ l len m : Nat} {full : Bool} {cs news : List CV} {h : AH} {k : Ko} {P : Program} (hl : h[l]? = some (.own e n full cs)) (hc : cs.length = len * n) (hn : 0 < n) (hm : 0 < m) (hb : (len + m) * by_ ≤ 140737488355328)
    (hK : kr P k (.one (.sl h.length n 0 (len + m))) (killG full l h ++ [.own e n false (cs ++ news)])) : apR P e n by_ (.one (.sl l n 0 len)) (some (m, news)) h k := by
  simp only [apR, On, appA, hl, true_and]
  have h1 : ¬ m = 0 := by omega
  have h2 : ¬ ((len + m) * n ≤ cs.length) := by
    rw [hc, Nat.add_mul]
    have := Nat.mul_pos hm hn
    omega
  simp only [AO.cs, hc, Nat.zero_add, Nat.le_refl, true_and, if_neg h1, hb]
  rw [hc] at h2
  rw [if_neg h2]
  have h3 : cs.take (len * n) = cs := List.take_of_length_le (by omega)
  unfold killG at hK
  rw [h3]
  cases full <;> simpa using hK
theorem ap_nil {e n by_ m : Nat} {news : List CV} {h : AH} {k : Ko} {P : Program} (hm : 0 < m) (hb : m * by_ ≤ 140737488355328)
    (hK : kr P k (.one (.sl h.length n 0 m)) (h ++ [.own e n false news])) : apR P e n by_ (.one (.c (.slice none 0 0))) (some (m, news)) h k := by
  simp only [apR, On, appA]
  rw [if_neg (by omega)]
  exact ⟨hb, hK⟩
def mmG (P : Program) (b : Bool) (x y : AV) (h : AH) (k : Ko) : Prop := match x, y with
        | .one (.c (.int ki a)), .one (.c (.int k' c)) => kr P k (.one (.c (.int ki (if b = true then (if a < c then c else a) else (if c < a then c else a))))) h
        | _, _ => False
theorem o_min (x y : Operand) (ts : Array TypeId) : opG P (.call { callee := .builtin .min, args := #[x, y], argTypes := ts }) f h k = mmG P false (ev f x) (ev f y) h k := by
  simp only [opG, aop, mmG, Bool.false_eq_true, if_false]
  rfl
theorem o_max (x y : Operand) (ts : Array TypeId) : opG P (.call { callee := .builtin .max, args := #[x, y], argTypes := ts }) f h k = mmG P true (ev f x) (ev f y) h k := by
  simp only [opG, aop, mmG, if_true]
  rfl
theorem mm_f (ki : IntKind) (a c : Int) : mmG P false (.one (.c (.int ki a))) (.one (.c (.int ki c))) h k = kr P k (.one (.c (.int ki (if c < a then c else a)))) h := by simp [mmG]
theorem mm_t (ki : IntKind) (a c : Int) : mmG P true (.one (.c (.int ki a))) (.one (.c (.int ki c))) h k = kr P k (.one (.c (.int ki (if a < c then c else a)))) h := by simp [mmG]
end
end Go.AL
namespace Go.AL
open Go.RowKit
/-! ### Regions of open order -/
section
variable (P : Program) (f : AF) (h : AH) (ds : DS) (ops : Array Oper) (s : List Fr) (Q : QT) (pr : List (Nat × AO)) (r : List (Nat × Bool × Bool))
def d2G (P : Program) (ds : DS) (ops : Array Oper) (o : Option Oper) (tk sy : Bool) (r : List (Nat × Bool × Bool)) (s : List Fr) (Q : QT) (f : AF) (h : AH) (pr : List (Nat × AO)) : Prop := match o with
  | none => False
  | some o => match tk with
      | true => wantA ds f o.guard
          (fun _ => On (takeA P o.op f h) fun v => adraw P ds ops r (ks P s Q .normal) (put f o.dst v.1) h (match v.2 with | some l => (match h[l]? with | some ob => (l, ob) :: pr | none => pr) | none => pr))
          (fun _ => adraw P ds ops r (ks P s Q .normal) (put f o.dst undefA) h pr)
      | false => wantA ds f o.guard
          (fun _ => aop P o.op f h fun v h' => (sy = true ∨ ∀ p ∈ pr, h'[p.1]? = some p.2) ∧ adraw P ds ops r (ks P s Q .normal) (put f o.dst v) h' pr)
          (fun _ => (sy = true ∨ ∀ p ∈ pr, h[p.1]? = some p.2) ∧ adraw P ds ops r (ks P s Q .normal) (put f o.dst undefA) h pr)
theorem d_nil : drG P ds ops [] s Q f h pr = nxG P .normal s Q f h := _root_.id rfl
theorem d_cons (i : Nat) (tk sy : Bool) : drG P ds ops ((i, tk, sy) :: r) s Q f h pr = d2G P ds ops ops[i]? tk sy r s Q f h pr := _root_.id rfl
theorem d_op (dst : Option Nat) (op : Op) (ty : TypeId) (pos : String) (af : Array Edge) (sy : Bool) : d2G P ds ops (some ⟨dst, op, ty, pos, af, none⟩) false sy r s Q f h pr = opG P op f h (.dr ds ops dst r sy s Q f pr) := _root_.id rfl
theorem d_want (dst : Option Nat) (op : Op) (ty : TypeId) (pos : String) (af : Array Edge) (sy : Bool) (j : Nat) (t : Bool) : d2G P ds ops (some ⟨dst, op, ty, pos, af, some (j, t)⟩) false sy r s Q f h pr = wtG P (gslot ds f j) t op f h (.dr ds ops dst r sy s Q f pr) := _root_.id rfl
/-- What is taken, and what is then held. -/
def tkG (P : Program) (v : Option (AV × Option Nat)) (ds : DS) (ops : Array Oper) (dst : Option Nat) (r : List (Nat × Bool × Bool)) (s : List Fr) (Q : QT) (f : AF) (h : AH) (pr : List (Nat × AO)) : Prop :=
  On v fun v => adraw P ds ops r (ks P s Q .normal) (put f dst v.1) h (match v.2 with | some l => (match h[l]? with | some ob => (l, ob) :: pr | none => pr) | none => pr)
def heldG (o : Option AO) (l : Nat) (pr : List (Nat × AO)) : List (Nat × AO) := match o with | some ob => (l, ob) :: pr | none => pr
theorem held_some (o : AO) (l : Nat) : heldG (some o) l pr = (l, o) :: pr := _root_.id rfl
theorem d_tk (dst : Option Nat) (op : Op) (ty : TypeId) (pos : String) (af : Array Edge) (sy : Bool) : d2G P ds ops (some ⟨dst, op, ty, pos, af, none⟩) true sy r s Q f h pr = tkG P (takeA P op f h) ds ops dst r s Q f h pr := _root_.id rfl
def twG (P : Program) (g : AV) (t : Bool) (v : Option (AV × Option Nat)) (ds : DS) (ops : Array Oper) (dst : Option Nat) (r : List (Nat × Bool × Bool)) (s : List Fr) (Q : QT) (f : AF) (h : AH) (pr : List (Nat × AO)) : Prop :=
  wantB g t (fun _ => tkG P v ds ops dst r s Q f h pr) (fun _ => adraw P ds ops r (ks P s Q .normal) (put f dst undefA) h pr)
theorem d_tw (dst : Option Nat) (op : Op) (ty : TypeId) (pos : String) (af : Array Edge) (sy : Bool) (j : Nat) (t : Bool) : d2G P ds ops (some ⟨dst, op, ty, pos, af, some (j, t)⟩) true sy r s Q f h pr = twG P (gslot ds f j) t (takeA P op f h) ds ops dst r s Q f h pr := _root_.id rfl
theorem tk_v (v : AV) (d : Nat) : tkG P (some (v, none)) ds ops (some d) r s Q f h pr = drG P ds ops r s Q (upd f d v) h pr := _root_.id rfl
theorem tk_l (v : AV) (d l : Nat) : tkG P (some (v, some l)) ds ops (some d) r s Q f h pr = drG P ds ops r s Q (upd f d v) h (heldG h[l]? l pr) := _root_.id rfl
theorem tw_tt (v : Option (AV × Option Nat)) (dst : Option Nat) : twG P (.one (.c (.bool true))) true v ds ops dst r s Q f h pr = tkG P v ds ops dst r s Q f h pr := _root_.id rfl
theorem tw_ff (v : Option (AV × Option Nat)) (dst : Option Nat) : twG P (.one (.c (.bool false))) false v ds ops dst r s Q f h pr = tkG P v ds ops dst r s Q f h pr := _root_.id rfl
theorem tw_tf (v : Option (AV × Option Nat)) (d : Nat) : twG P (.one (.c (.bool true))) false v ds ops (some d) r s Q f h pr = drG P ds ops r s Q (upd f d undefA) h pr := _root_.id rfl
theorem tw_ft (v : Option (AV × Option Nat)) (d : Nat) : twG P (.one (.c (.bool false))) true v ds ops (some d) r s Q f h pr = drG P ds ops r s Q (upd f d undefA) h pr := _root_.id rfl
theorem tw_u (t : Bool) (v : Option (AV × Option Nat)) (d : Nat) : twG P undefA t v ds ops (some d) r s Q f h pr = drG P ds ops r s Q (upd f d undefA) h pr := by unfold twG wantB undefA; rfl
theorem t_move (x : Operand) : takeA P (.move x) f h = some (ev f x, none) := _root_.id rfl
theorem t_assign (x : Operand) : takeA P (.assign x) f h = some (ev f x, none) := _root_.id rfl
def tpG (c a b : AV) : Option (AV × Option Nat) := match c with | .one (.c (.bool t)) => some (if t = true then a else b, none) | _ => none
theorem t_pick (c a b : Operand) : takeA P (.pick c a b) f h = tpG (ev f c) (ev f a) (ev f b) := _root_.id rfl
theorem tp_t (a b : AV) : tpG (.one (.c (.bool true))) a b = some (a, none) := by simp [tpG]
theorem tp_f (a b : AV) : tpG (.one (.c (.bool false))) a b = some (b, none) := by simp [tpG]
def vlG (v : Option AV) (l : Option Nat) : Option (AV × Option Nat) := v.map fun v => (v, l)
theorem vl_some (v : AV) (l : Option Nat) : vlG (some v) l = some (v, l) := _root_.id rfl
def tlG (P : Program) (t : TypeId) (a : AV) (h : AH) : Option (AV × Option Nat) := match a with | .one (.ptr l off) => vlG (ldA P t h[l]? off) (some l) | _ => none
theorem t_load (t : TypeId) (a : Operand) : takeA P (.load t a) f h = tlG P t (ev f a) h := by
  simp only [takeA, tlG, vlG, ldA]
  split <;> simp_all only
  rename_i l off _
  cases h[l]? <;> simp
theorem tl_ptr (t : TypeId) (l off : Nat) : tlG P t (.one (.ptr l off)) h = vlG (ldA P t h[l]? off) (some l) := _root_.id rfl
def tfG (q : Option (Nat × TypeId)) (a : AV) : Option (AV × Option Nat) := match a with | .one (.ptr l off) => q.map fun q => (.one (.ptr l (off + q.1)), none) | _ => none
theorem t_fieldAddr (st : TypeId) (x : Operand) (i : Nat) : takeA P (.fieldAddr st x i) f h = tfG (offA P st i) (ev f x) := _root_.id rfl
theorem tf_ptr (o : Nat) (t : TypeId) (l off : Nat) : tfG (some (o, t)) (.one (.ptr l off)) = some (.one (.ptr l (off + o)), none) := _root_.id rfl
def tiG (n : Option Nat) (x ix : AV) : Option (AV × Option Nat) := n.bind fun n => (match x, ix with
    | .one (.sl l _ off len), .one (.c (.int _ i)) => if 0 ≤ i ∧ i < len then some (.one (.ptr l (off + i.toNat * n)), none) else none
    | .one (.slc l off len _), .one (.c (.int _ i)) => if 0 ≤ i ∧ i < len then some (.one (.ptr l (off + i.toNat * n)), none) else none
    | _, _ => none)
theorem t_indexAddr (t : TypeId) (x ix : Operand) : takeA P (.indexAddr t x ix) f h = tiG ((elemA P t).bind (sizeA P)) (ev f x) (ev f ix) := by
  simp only [takeA, tiG]
  cases elemA P t <;> simp only [Option.bind_none, Option.bind_some]
  rfl
theorem ti_sl (n l k' off len : Nat) (ki : IntKind) (i : Int) : tiG (some n) (.one (.sl l k' off len)) (.one (.c (.int ki i))) = if 0 ≤ i ∧ i < len then some (.one (.ptr l (off + i.toNat * n)), none) else none := _root_.id rfl
def tbG (P : Program) (op : BinOp) (t : TypeId) (x y : AV) : Option (AV × Option Nat) := match x, y with
    | .one (.c a), .one (.c b) => (binA P op t a b).map fun v => (.one (.c v), none)
    | _, _ => none
theorem t_bin (op : BinOp) (t : TypeId) (x y : Operand) (t2 : TypeId) : takeA P (.binOp op t x y t2) f h = tbG P op t (ev f x) (ev f y) := _root_.id rfl
theorem tb_add (t : TypeId) (a b : Int) : tbG P .add t (.one (.c (.int .i64 a))) (.one (.c (.int .i64 b))) = some (.one (.c (.int .i64 (wrap64 (a + b)))), none) := by simp [tbG, binA, intA, IntKind.wrap_i64, wrap64]
theorem tb_sub (t : TypeId) (a b : Int) : tbG P .sub t (.one (.c (.int .i64 a))) (.one (.c (.int .i64 b))) = some (.one (.c (.int .i64 (wrap64 (a - b)))), none) := by simp [tbG, binA, intA, IntKind.wrap_i64, wrap64]
theorem tb_mul (t : TypeId) (a b : Int) : tbG P .mul t (.one (.c (.int .i64 a))) (.one (.c (.int .i64 b))) = some (.one (.c (.int .i64 (wrap64 (a * b)))), none) := by simp [tbG, binA, intA, IntKind.wrap_i64, wrap64]
theorem tb_eql (t : TypeId) (ki : IntKind) (a b : Int) : tbG P .eql t (.one (.c (.int ki a))) (.one (.c (.int ki b))) = some (.one (.c (.bool (a == b))), none) := by simp [tbG, binA, intA]
theorem tb_neq (t : TypeId) (ki : IntKind) (a b : Int) : tbG P .neq t (.one (.c (.int ki a))) (.one (.c (.int ki b))) = some (.one (.c (.bool (!(a == b)))), none) := by simp [tbG, binA, intA]; rfl
theorem tb_lss (t : TypeId) (ki : IntKind) (a b : Int) : tbG P .lss t (.one (.c (.int ki a))) (.one (.c (.int ki b))) = some (.one (.c (.bool (decide (a < b)))), none) := by simp [tbG, binA, intA]
theorem tb_leq (t : TypeId) (ki : IntKind) (a b : Int) : tbG P .leq t (.one (.c (.int ki a))) (.one (.c (.int ki b))) = some (.one (.c (.bool (decide (a ≤ b)))), none) := by simp [tbG, binA, intA]
theorem tb_gtr (t : TypeId) (ki : IntKind) (a b : Int) : tbG P .gtr t (.one (.c (.int ki a))) (.one (.c (.int ki b))) = some (.one (.c (.bool (decide (b < a)))), none) := by simp [tbG, binA, intA]
theorem tb_geq (t : TypeId) (ki : IntKind) (a b : Int) : tbG P .geq t (.one (.c (.int ki a))) (.one (.c (.int ki b))) = some (.one (.c (.bool (decide (b ≤ a)))), none) := by simp [tbG, binA, intA]
def tuG (op : UnOp) (x : AV) : Option (AV × Option Nat) := match x with | .one (.c a) => (unA op a).map fun v => (.one (.c v), none) | _ => none
theorem t_un (op : UnOp) (t : TypeId) (x : Operand) : takeA P (.unOp op t x) f h = tuG op (ev f x) := _root_.id rfl
theorem tu_not (b : Bool) : tuG .not (.one (.c (.bool b))) = some (.one (.c (.bool (!b))), none) := _root_.id rfl
def teG (x : AV) (i : Nat) : Option (AV × Option Nat) := match x with | .tup xs => vlG xs[i]? none | _ => none
theorem t_extract (x : Operand) (i : Nat) : takeA P (.extract x i) f h = teG (ev f x) i := _root_.id rfl
theorem t_len (x : Operand) (t : TypeId) : takeA P (.call { callee := .builtin .len, args := #[x], argTypes := #[t] }) f h = lenA P t (ev f x) := _root_.id rfl
theorem tn_str (t : TypeId) (s : ByteArray) (ht : strA P t = true) : lenA P t (.one (.c (.string s))) = some (.one (.c (.int .i64 s.size)), none) := by simp [lenA, ht]
theorem tn_nil (t : TypeId) (ht : (elemA P t).isSome = true) : lenA P t (.one (.c (.slice none 0 0))) = some (.one (.c (.int .i64 0)), none) := by simp [lenA, ht]
theorem tn_sl (t : TypeId) (l k' off len : Nat) (ht : (elemA P t).isSome = true) : lenA P t (.one (.sl l k' off len)) = some (.one (.c (.int .i64 len)), none) := by simp [lenA, ht]
theorem te_tup (xs : List AV) (i : Nat) : teG (.tup xs) i = vlG xs[i]? none := _root_.id rfl
variable {P f h ds ops s Q pr r}
theorem tw_split {b t : Bool} {v : Option (AV × Option Nat)} {dst : Option Nat} (h1 : b = true → twG P (.one (.c (.bool true))) t v ds ops dst r s Q f h pr) (h2 : b = false → twG P (.one (.c (.bool false))) t v ds ops dst r s Q f h pr) : twG P (.one (.c (.bool b))) t v ds ops dst r s Q f h pr := by cases b; exact h2 rfl; exact h1 rfl
end
end Go.AL
namespace Go.AL
open Go.RowKit
/-- From a contract to a law's call. -/
theorem law_calls {P : Program} {g : Nat} {args : List AV} {h : AH} {W : World} {φ : Phi} (H : ACalls P g args h fun r _ => r = .one (.c (.bool true))) (R : Rep W.heap.size W φ h W) (ha : ∀ x ∈ args, x.wf h.length) :
    Calls P g (args.map (AV.conc φ)).toArray W fun e W' => e = .returned (.bool true) ∧ Below W.heap.size W W' := by
  refine (H.2 W.heap.size W φ W R ha).mono ?_
  rintro e w' ⟨r, h', φ', rfl, rfl, R', _⟩
  exact ⟨by simp [AV.conc, CV.conc], R'.below⟩
theorem rep_nil (W : World) (φ : Phi) : Rep W.heap.size W φ [] W where
  below := Below.refl W.heap.size W
  hb := Nat.le_refl _
  obj := fun l o hl => by simp at hl
  wf := fun l o hl => by simp at hl
  inj := fun i j oi oj hi => by simp at hi
section
variable {H : Type} {enc : TypeId × Value → H} {P : Program} {w : World} {base fuel : Nat} {spare : Nat → Bool} {held : Bool} {t : TypeId} {v : Value} {x : DataW H × List MemPlace}
theorem one_int {k : IntKind} (ht : P.underlying t = some (.int k)) (h : DataW.trod enc P w base spare held fuel t [v] = some x) : ∃ n, v = .int k n ∧ (Lit.int k n).wf = true := by
  obtain ⟨n, hc, _, hw⟩ := DataW.trod_int ht h
  simp at hc
  exact ⟨n, hc, hw⟩
theorem one_str (ht : P.underlying t = some .string) (h : DataW.trod enc P w base spare held fuel t [v] = some x) : ∃ s, v = .string s ∧ s.size ≤ maxLen := by
  obtain ⟨s, hc, _, hw⟩ := DataW.trod_string ht h
  simp at hc
  exact ⟨s, hc, hw⟩
end
end Go.AL
