/- Further operations as rewriting steps: structs and slices built, made, cut and appended to, strings and bytes. Conditions: none. -/
import Derived.Test.YtjfmfcdempkpdaaA9
import Derived.ChangeArms
import Derived.Carry
namespace Go.AL
open Go.RowKit
set_option linter.unusedVariables false
set_option linter.unusedSimpArgs false
section
variable (P : Program) (f : AF) (h : AH) (k : Ko)
/-! ### Structs built -/
def pt2 (i : Nat) (v : Option (List CV)) (r : Option (List (Nat × List CV))) : Option (List (Nat × List CV)) := match v, r with | some cs, some q => some ((i, cs) :: q) | _, _ => none
theorem pt_nil : partsA f [] = some [] := _root_.id rfl
theorem pt_cons (i : Nat) (x : Operand) (r : List (Nat × Operand)) : partsA f ((i, x) :: r) = pt2 i (cellsA (ev f x)) (partsA f r) := _root_.id rfl
theorem pt2_some (i : Nat) (v : List CV) (r : List (Nat × List CV)) : pt2 i (some v) (some r) = some ((i, v) :: r) := _root_.id rfl
def flG (pl : List (Nat × Nat)) (z : List CV) (ps : List (Nat × List CV)) : Option (List CV) := fillA (fun i => pl[i]?) z ps
def fl2 (q : Option (Nat × Nat)) (pl : List (Nat × Nat)) (z v : List CV) (ps : List (Nat × List CV)) : Option (List CV) := match q with | some (off, size) => if v.length = size ∧ off + size ≤ z.length then flG pl (cset z off v) ps else none | none => none
theorem fl_nil (pl : List (Nat × Nat)) (z : List CV) : flG pl z [] = some z := _root_.id rfl
theorem fl_cons (pl : List (Nat × Nat)) (z v : List CV) (i : Nat) (ps : List (Nat × List CV)) : flG pl z ((i, v) :: ps) = fl2 pl[i]? pl z v ps := by
  simp only [flG, fl2, fillA]
  cases pl[i]? <;> rfl
theorem fl2_some (off size : Nat) (pl : List (Nat × Nat)) (z v : List CV) (ps : List (Nat × List CV)) : fl2 (some (off, size)) pl z v ps = if v.length = size ∧ off + size ≤ z.length then flG pl (cset z off v) ps else none := _root_.id rfl
def bdG (P : Program) (pl : Option (List (Nat × Nat))) (z : Option (List CV)) (ps : Option (List (Nat × List CV))) (h : AH) (k : Ko) : Prop := On pl fun pl => On z fun z => On ps fun ps => On (fillA (pl[·]?) z ps) fun cs => kr P k (.agg cs) h
def agG (P : Program) (cs : Option (List CV)) (h : AH) (k : Ko) : Prop := On cs fun cs => kr P k (.agg cs) h
theorem o_build (t : TypeId) (parts : Array (Nat × Operand)) : opG P (.build t parts) f h k = bdG P (placesA P t) (zeroA P t) (partsA f parts.toList) h k := _root_.id rfl
theorem bd_some (pl : List (Nat × Nat)) (z : List CV) (ps : List (Nat × List CV)) : bdG P (some pl) (some z) (some ps) h k = agG P (flG pl z ps) h k := _root_.id rfl
theorem ag_some (cs : List CV) : agG P (some cs) h k = kr P k (.agg cs) h := _root_.id rfl
/-! ### Slices built -/
def fsG (n : Nat) (z : List CV) (ps : List (Nat × List CV)) : Option (List CV) := fillA (fun i => some (i * n, n)) z ps
theorem fs_nil (n : Nat) (z : List CV) : fsG n z [] = some z := _root_.id rfl
theorem fs_cons (n : Nat) (z v : List CV) (i : Nat) (ps : List (Nat × List CV)) : fsG n z ((i, v) :: ps) = if v.length = n ∧ i * n + n ≤ z.length then fsG n (cset z (i * n) v) ps else none := by simp only [fsG, fillA]
def bsG (P : Program) (e : Option TypeId) (len : Nat) (ps : Option (List (Nat × List CV))) (h : AH) (k : Ko) : Prop := On e fun e => On (sizeA P e) fun n => On (zeroA P e) fun z => On ps fun ps => z.length = n ∧ 0 < n ∧ len * n ≤ 16777216 ∧ len ≤ maxLen ∧
      On (fillA (fun i => some (i * n, n)) (repCV z len) ps) fun cs => kr P k (.one (.sl h.length n 0 len)) (h ++ [.own e n true cs])
def bs2 (P : Program) (e : TypeId) (n : Option Nat) (z : Option (List CV)) (len : Nat) (ps : Option (List (Nat × List CV))) (h : AH) (k : Ko) : Prop := On n fun n => On z fun z => On ps fun ps => z.length = n ∧ 0 < n ∧ len * n ≤ 16777216 ∧ len ≤ maxLen ∧
      On (fillA (fun i => some (i * n, n)) (repCV z len) ps) fun cs => kr P k (.one (.sl h.length n 0 len)) (h ++ [.own e n true cs])
def bs3 (P : Program) (e n len : Nat) (cs : Option (List CV)) (h : AH) (k : Ko) : Prop := On cs fun cs => kr P k (.one (.sl h.length n 0 len)) (h ++ [.own e n true cs])
theorem o_buildSlice (t : TypeId) (len : Nat) (parts : Array (Nat × Operand)) : opG P (.buildSlice t len parts) f h k = bsG P (elemA P t) len (partsA f parts.toList) h k := _root_.id rfl
theorem bs_some (e : TypeId) (len : Nat) (ps : Option (List (Nat × List CV))) : bsG P (some e) len ps h k = bs2 P e (sizeA P e) (zeroA P e) len ps h k := _root_.id rfl
theorem bs2_some (e n len : Nat) (z : List CV) (ps : List (Nat × List CV)) : bs2 P e (some n) (some z) len (some ps) h k = (z.length = n ∧ 0 < n ∧ len * n ≤ 16777216 ∧ len ≤ maxLen ∧ bs3 P e n len (fsG n (repCV z len) ps) h k) := _root_.id rfl
theorem bs3_some (e n len : Nat) (cs : List CV) : bs3 P e n len (some cs) h k = kr P k (.one (.sl h.length n 0 len)) (h ++ [.own e n true cs]) := _root_.id rfl
theorem rep_zero (cs : List CV) : repCV cs 0 = [] := _root_.id rfl
theorem rep_succ (cs : List CV) (n : Nat) : repCV cs (n + 1) = cs ++ repCV cs n := _root_.id rfl
theorem le_maxLen (n : Nat) (hn : n ≤ 1000000) : (n ≤ maxLen) = True := by
  have : (1000000 : Nat) ≤ maxLen := by decide
  exact eq_true (Nat.le_trans hn this)
/-! ### Slices made -/
def mkG (P : Program) (e : Option TypeId) (l c : Option Nat) (h : AH) (k : Ko) : Prop := On e fun e => On (sizeA P e) fun n => On (zeroA P e) fun z => On (bytesA P e) fun by_ => On l fun m => On c fun n2 => n2 = m ∧ z.length = n ∧ 0 < n ∧ by_ * m ≤ 281474976710656 ∧ m ≤ maxLen ∧
      kr P k (.one (.sl h.length n 0 m)) (h ++ [.own e n true (repCV z m)])
theorem o_makeSlice (t : TypeId) (l c : Operand) : opG P (.makeSlice t l c) f h k = mkG P (elemA P t) (boundA 0 (some (ev f l))) (boundA 0 (some (ev f c))) h k := _root_.id rfl
def mk2 (P : Program) (e : TypeId) (n : Option Nat) (z : Option (List CV)) (b : Option Nat) (m : Nat) (h : AH) (k : Ko) : Prop := On n fun n => On z fun z => On b fun by_ => z.length = n ∧ 0 < n ∧ by_ * m ≤ 281474976710656 ∧ m ≤ maxLen ∧ kr P k (.one (.sl h.length n 0 m)) (h ++ [.own e n true (repCV z m)])
theorem mk_some (e : TypeId) (m : Nat) : mkG P (some e) (some m) (some m) h k = mk2 P e (sizeA P e) (zeroA P e) (bytesA P e) m h k := by simp only [mkG, mk2, On, true_and]
theorem mk2_some (e n m b : Nat) (z : List CV) : mk2 P e (some n) (some z) (some b) m h k = (z.length = n ∧ 0 < n ∧ b * m ≤ 281474976710656 ∧ m ≤ maxLen ∧ kr P k (.one (.sl h.length n 0 m)) (h ++ [.own e n true (repCV z m)])) := _root_.id rfl
theorem bd_none (len : Nat) : boundA len none = some len := _root_.id rfl
theorem bd_int (len : Nat) (ki : IntKind) (i : Int) : boundA len (some (.one (.c (.int ki i)))) = if 0 ≤ i then some i.toNat else none := _root_.id rfl
/-! ### Cuts -/
def slG (P : Program) (t : TypeId) (v : AV) (lo hi mx : Option AV) (h : AH) (k : Ko) : Prop := match v with
    | .one (.c (.string s)) => strA P t = true ∧ mx.isNone = true ∧ On (boundA 0 lo) fun i => On (boundA s.size hi) fun j => i ≤ j ∧ j ≤ s.size ∧ kr P k (.one (.c (.string (s.extract i j)))) h
    | .one (.c (.slice none 0 0)) => On (elemA P t) fun e => (sizeA P e).isSome = true ∧ On (boundA 0 lo) fun i => On (boundA 0 hi) fun j => On (boundA 0 mx) fun m => i = 0 ∧ j = 0 ∧ m = 0 ∧ (mx.isSome = true → hi.isSome = true) ∧ kr P k (.one (.c (.slice none 0 0))) h
    | .one (.sl l k' off len) => On (elemA P t) fun e => sizeA P e = some k' ∧ 0 < k' ∧ On (h[l]?) fun o => off + len * k' ≤ o.cs.length ∧ On (boundA 0 lo) fun i => On (boundA len hi) fun j => i ≤ j ∧ j ≤ len ∧ (match mx with
      | none => if i < len ∨ i = 0 then kr P k (.one (.sl l k' (off + i * k') (j - i))) h else kr P k (.one (.sl l k' (off + i * k') (j - i))) h ∧ kr P k (.one (.slc l off 0 0)) h
      | some m0 => On (boundA 0 (some m0)) fun m => j ≤ m ∧ m ≤ len ∧ hi.isSome = true ∧ kr P k (.one (.slc l (if m = i then off else off + i * k') (j - i) (m - i))) h)
    | _ => False
theorem o_slice (t : TypeId) (x : Operand) (lo hi mx : Option Operand) : opG P (.slice t x lo hi mx) f h k = slG P t (ev f x) (lo.map (ev f)) (hi.map (ev f)) (mx.map (ev f)) h k := by
  simp only [opG, aop, slG, Option.isNone_map, Option.isSome_map]
  cases mx <;> rfl
def ssG (P : Program) (b : Bool) (s : ByteArray) (i j : Option Nat) (h : AH) (k : Ko) : Prop := b = true ∧ On i fun i => On j fun j => i ≤ j ∧ j ≤ s.size ∧ kr P k (.one (.c (.string (s.extract i j)))) h
theorem sl_str (t : TypeId) (s : ByteArray) (lo hi : Option AV) : slG P t (.one (.c (.string s))) lo hi none h k = ssG P (strA P t) s (boundA 0 lo) (boundA s.size hi) h k := by simp [slG, ssG]
theorem ss_some (s : ByteArray) (i j : Nat) : ssG P true s (some i) (some j) h k = (i ≤ j ∧ j ≤ s.size ∧ kr P k (.one (.c (.string (s.extract i j)))) h) := by simp only [ssG, true_and, On]
/-- A slice cut with no third bound. -/
def sxG (P : Program) (n : Option Nat) (l k' off len : Nat) (o : Option AO) (i j : Option Nat) (h : AH) (k : Ko) : Prop := n = some k' ∧ 0 < k' ∧ On o fun o => off + len * k' ≤ o.cs.length ∧ On i fun i => On j fun j => i ≤ j ∧ j ≤ len ∧ (if i < len ∨ i = 0 then kr P k (.one (.sl l k' (off + i * k') (j - i))) h else kr P k (.one (.sl l k' (off + i * k') (j - i))) h ∧ kr P k (.one (.slc l off 0 0)) h)
theorem sl_sl (t : TypeId) (l k' off len : Nat) (lo hi : Option AV) : slG P t (.one (.sl l k' off len)) lo hi none h k = sxG P ((elemA P t).bind (sizeA P)) l k' off len h[l]? (boundA 0 lo) (boundA len hi) h k := by
  simp only [slG, sxG]
  cases elemA P t <;> simp [On]
theorem sl_nil (t : TypeId) (lo hi : Option AV) (e : TypeId) (n : Nat) (he : elemA P t = some e) (hn : sizeA P e = some n) (h1 : boundA 0 lo = some 0) (h2 : boundA 0 hi = some 0) : slG P t (.one (.c (.slice none 0 0))) lo hi none h k = kr P k (.one (.c (.slice none 0 0))) h := by simp [slG, he, hn, On, h1, h2, bd_none]
/-! ### Closures -/
def capA (f : AF) : List Operand → Option (List Nat)
  | [] => some []
  | x :: r => match ev f x, capA f r with | .one (.ptr l 0), some q => some (l :: q) | _, _ => none
def cap2 (v : AV) (r : Option (List Nat)) : Option (List Nat) := match v, r with | .one (.ptr l 0), some q => some (l :: q) | _, _ => none
theorem cap_eq (f : AF) : ∀ xs : List Operand, (xs.mapM fun x => match ev f x with | .one (.ptr l 0) => some l | _ => none) = capA f xs
  | [] => by simp [capA]
  | x :: r => by
    rw [List.mapM_cons, cap_eq f r]
    show _ = (match ev f x, capA f r with | .one (.ptr l 0), some q => some (l :: q) | _, _ => none)
    cases hx : ev f x with
    | one c =>
      cases c with
      | ptr l o => cases o <;> cases capA f r <;> simp
      | _ => simp
    | _ => simp
theorem cap_nil : capA f [] = some [] := _root_.id rfl
theorem cap_cons (x : Operand) (r : List Operand) : capA f (x :: r) = cap2 (ev f x) (capA f r) := _root_.id rfl
theorem cap2_some (l : Nat) (r : List Nat) : cap2 (.one (.ptr l 0)) (some r) = some (l :: r) := _root_.id rfl
def mfG (P : Program) (g : Nat) (b : Bool) (ls : Option (List Nat)) (h : AH) (k : Ko) : Prop := b = true ∧ On ls fun ls => kr P k (.one (.clo g ls)) h
theorem o_makeFunc (g : Nat) (first captured : Array Operand) : opG P (.makeFunc (.func g) first captured) f h k = mfG P g (first.size == 0) (capA f captured.toList) h k := by
  simp only [opG, aop, mfG, beq_iff_eq]
  rw [← cap_eq]
  rfl
theorem mf_some (g : Nat) (ls : List Nat) : mfG P g true (some ls) h k = kr P k (.one (.clo g ls)) h := by simp only [mfG, On, true_and]
/-! ### Conversions -/
def cvG (P : Program) (src dst : TypeId) (v : AV) (f : AF) (x : Operand) (h : AH) (k : Ko) : Prop := match v with
    | .one (.c (.string s)) => if strA P dst = true then (P.underlying src).isSome = true ∧ kr P k (.one (.c (.string s))) h else strA P src = true ∧ On (elemA P dst) fun e => kindA P e = some .u8 ∧ s.size ≤ maxLen ∧
        (kr P k (.one (.sl h.length 1 0 s.size)) (h ++ [.own e 0 false (bytesCV s)]))
    | .one (.c (.int ki n)) => (match kindA P dst with
      | some k' => (P.underlying src).isSome = true ∧ kr P k (.one (.c (.int k' (k'.wrap n)))) h
      | _ => False)
    | v => strA P dst = true ∧ On (elemA P src) fun e => kindA P e = some .u8 ∧ On (rowA h 1 v) fun r => On (intsOf r.2) fun xs => kr P k (.one (.c (.string (strOfNums xs)))) h
theorem o_convert (src dst : TypeId) (x : Operand) : opG P (.convert src dst x) f h k = cvG P src dst (ev f x) f x h k := by
  simp only [opG, aop, cvG]
  split
  · rename_i s hs
    simp only [hs]
  · rename_i ki n hx
    simp only [aop1, hx]
    cases kindA P dst <;> rfl
  · rename_i h1 h2
    split
    · rename_i s hs; exact absurd hs (h1 s)
    · rename_i ki n hs; exact absurd hs (h2 ki n)
    · rfl
theorem cv_int (src dst : TypeId) (ki k' : IntKind) (n : Int) (x : Operand) (hk : kindA P dst = some k') (hs : (P.underlying src).isSome = true) : cvG P src dst (.one (.c (.int ki n))) f x h k = kr P k (.one (.c (.int k' (k'.wrap n)))) h := by simp [cvG, hk, hs]
theorem cv_sb (src dst e : TypeId) (s : ByteArray) (x : Operand) (hd : strA P dst = false) (hs : strA P src = true) (he : elemA P dst = some e) (hk : kindA P e = some .u8) : cvG P src dst (.one (.c (.string s))) f x h k = (s.size ≤ maxLen ∧ kr P k (.one (.sl h.length 1 0 s.size)) (h ++ [.own e 0 false (bytesCV s)])) := by simp [cvG, hd, hs, he, hk, On]
/-! ### Appends and the small ones -/
def apG (P : Program) (e : Option TypeId) (b : Bool) (s x : AV) (h : AH) (k : Ko) : Prop := On e fun e => On (sizeA P e) fun n => On (bytesA P e) fun by_ => On (zeroA P e) fun z => z.length = n ∧ 0 < n ∧ 0 < by_ ∧ b = true ∧ On (rowA h n x) fun r => appA e n by_ h s r.1 r.2 (kr P k)
theorem o_append (s x : Operand) (t t2 : TypeId) : opG P (.call { callee := .builtin .append, args := #[s, x], argTypes := #[t, t2] }) f h k = apG P (elemA P t) ((elemA P t2).isSome || strA P t2) (ev f s) (ev f x) h k := _root_.id rfl
def ap2 (P : Program) (e : TypeId) (n by_ : Option Nat) (z : Option (List CV)) (s : AV) (r : Option (Nat × List CV)) (h : AH) (k : Ko) : Prop := On n fun n => On by_ fun by_ => On z fun z => z.length = n ∧ 0 < n ∧ 0 < by_ ∧ On r fun r => appA e n by_ h s r.1 r.2 (kr P k)
theorem ap_some (e n : Nat) (s x : AV) (hn : sizeA P e = some n) : apG P (some e) true s x h k = ap2 P e (some n) (bytesA P e) (zeroA P e) s (rowA h n x) h k := by simp [apG, ap2, On, hn]
def mmG (P : Program) (b : Bool) (x y : AV) (h : AH) (k : Ko) : Prop := match x, y with
        | .one (.c (.int ki a)), .one (.c (.int k' c)) => kr P k (.one (.c (.int ki (if b = true then (if a < c then c else a) else (if c < a then c else a))))) h
        | _, _ => False
theorem o_min (x y : Operand) (ts : Array TypeId) : opG P (.call { callee := .builtin .min, args := #[x, y], argTypes := ts }) f h k = mmG P false (ev f x) (ev f y) h k := by
  simp only [opG, aop, mmG, Bool.false_eq_true, if_false]
  rfl
theorem o_max (x y : Operand) (ts : Array TypeId) : opG P (.call { callee := .builtin .max, args := #[x, y], argTypes := ts }) f h k = mmG P true (ev f x) (ev f y) h k := by
  simp only [opG, aop, mmG, if_true]
  rfl
theorem mm_f (ki : IntKind) (a c : Int) : mmG P false (.one (.c (.int ki a))) (.one (.c (.int ki c))) h k = kr P k (.one (.c (.int ki (if c < a then c else a)))) h := by simp [mmG]
theorem mm_t (ki : IntKind) (a c : Int) : mmG P true (.one (.c (.int ki a))) (.one (.c (.int ki c))) h k = kr P k (.one (.c (.int ki (if a < c then c else a)))) h := by simp [mmG]
end
end Go.AL
namespace Go.AL
open Go.RowKit
/-- From a contract to a law's call. -/
theorem law_calls {P : Program} {g : Nat} {args : List AV} {h : AH} {W : World} {φ : Phi} (H : ACalls P g args h fun r _ => r = .one (.c (.bool true))) (R : Rep W.heap.size W φ h W) (ha : ∀ x ∈ args, x.wf h.length) :
    Calls P g (args.map (AV.conc φ)).toArray W fun e W' => e = .returned (.bool true) ∧ Below W.heap.size W W' := by
  refine (H.2 W.heap.size W φ W R ha).mono ?_
  rintro e w' ⟨r, h', φ', rfl, rfl, R', _⟩
  exact ⟨by simp [AV.conc, CV.conc], R'.below⟩
theorem rep_nil (W : World) (φ : Phi) : Rep W.heap.size W φ [] W where
  below := Below.refl W.heap.size W
  hb := Nat.le_refl _
  obj := fun l o hl => by simp at hl
  wf := fun l o hl => by simp at hl
  inj := fun i j oi oj hi => by simp at hi
section
variable {H : Type} {enc : TypeId × Value → H} {P : Program} {w : World} {base fuel : Nat} {spare : Nat → Bool} {held : Bool} {t : TypeId} {v : Value} {x : DataW H × List MemPlace}
theorem one_int {k : IntKind} (ht : P.underlying t = some (.int k)) (h : DataW.trod enc P w base spare held fuel t [v] = some x) : ∃ n, v = .int k n ∧ (Lit.int k n).wf = true := by
  obtain ⟨n, hc, _, hw⟩ := DataW.trod_int ht h
  simp at hc
  exact ⟨n, hc, hw⟩
theorem one_str (ht : P.underlying t = some .string) (h : DataW.trod enc P w base spare held fuel t [v] = some x) : ∃ s, v = .string s ∧ s.size ≤ maxLen := by
  obtain ⟨s, hc, _, hw⟩ := DataW.trod_string ht h
  simp at hc
  exact ⟨s, hc, hw⟩
end
end Go.AL
