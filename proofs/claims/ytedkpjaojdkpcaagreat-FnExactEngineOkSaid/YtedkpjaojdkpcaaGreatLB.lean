/- Further operations as rewriting steps; regions of open order; what functions hand back. Conditions: none. -/
import Derived.Test.YtedkpjaojdkpcaaGreatLA
namespace Go.BL
open Go.RowKit
set_option linter.unusedVariables false
set_option linter.unusedSimpArgs false
section
variable (P : Program) (f : AF) (h : AH) (k : Ko)
/-! ### Structs built -/
def pt2 (i : Nat) (v : Option (List CV)) (r : Option (List (Nat × List CV))) : Option (List (Nat × List CV)) := match v, r with | some cs, some q => some ((i, cs) :: q) | _, _ => none
theorem pt_nil : partsA f [] = some [] := _root_.id rfl
theorem pt_cons (i : Nat) (x : Operand) (r : List (Nat × Operand)) : partsA f ((i, x) :: r) = pt2 i (cellsA (ev f x)) (partsA f r) := _root_.id rfl
theorem pt2_some (i : Nat) (v : List CV) (r : List (Nat × List CV)) : pt2 i (some v) (some r) = some ((i, v) :: r) := _root_.id rfl
def flG (pl : List (Nat × Nat)) (z : List CV) (ps : List (Nat × List CV)) : Option (List CV) := fillA (fun i => pl[i]?) z ps
def fl2 (q : Option (Nat × Nat)) (pl : List (Nat × Nat)) (z v : List CV) (ps : List (Nat × List CV)) : Option (List CV) := match q with | some (off, size) => if v.length = size ∧ off + size ≤ z.length then flG pl (cset z off v) ps else none | none => none
theorem fl_nil (pl : List (Nat × Nat)) (z : List CV) : flG pl z [] = some z := _root_.id rfl
theorem fl_cons (pl : List (Nat × Nat)) (z v : List CV) (i : Nat) (ps : List (Nat × List CV)) : flG pl z ((i, v) :: ps) = fl2 pl[i]? pl z v ps := by
  simp only [flG, fl2, fillA]
  cases pl[i]? <;> rfl
theorem fl2_some (off size : Nat) (pl : List (Nat × Nat)) (z v : List CV) (ps : List (Nat × List CV)) : fl2 (some (off, size)) pl z v ps = if v.length = size ∧ off + size ≤ z.length then flG pl (cset z off v) ps else none := _root_.id rfl
def bdG (P : Program) (pl : Option (List (Nat × Nat))) (z : Option (List CV)) (ps : Option (List (Nat × List CV))) (h : AH) (k : Ko) : Prop := On pl fun pl => On z fun z => On ps fun ps => On (fillA (pl[·]?) z ps) fun cs => kr P k (.agg cs) h
def agG (P : Program) (cs : Option (List CV)) (h : AH) (k : Ko) : Prop := On cs fun cs => kr P k (.agg cs) h
theorem o_build (t : TypeId) (parts : Array (Nat × Operand)) : opG P (.build t parts) f h k = bdG P (placesA P t) (zeroA P t) (partsA f parts.toList) h k := _root_.id rfl
theorem bd_some (pl : List (Nat × Nat)) (z : List CV) (ps : List (Nat × List CV)) : bdG P (some pl) (some z) (some ps) h k = agG P (flG pl z ps) h k := _root_.id rfl
theorem ag_some (cs : List CV) : agG P (some cs) h k = kr P k (.agg cs) h := _root_.id rfl
/-! ### Slices built -/
def fe1 (n : Nat) (b : Bool) (es : List (List CV)) (i : Nat) (v : List CV) (ps : List (Nat × List CV)) : Option (List (List CV)) := if b = true then fillE n (es.set i v) ps else none
theorem fe_nil (n : Nat) (es : List (List CV)) : fillE n es [] = some es := _root_.id rfl
theorem fe_cons (n : Nat) (es : List (List CV)) (v : List CV) (i : Nat) (ps : List (Nat × List CV)) : fillE n es ((i, v) :: ps) = if v.length = n ∧ i < es.length then fillE n (es.set i v) ps else none := by simp only [fillE]
def bsG (P : Program) (e : Option TypeId) (len : Nat) (ps : Option (List (Nat × List CV))) (h : AH) (k : Ko) : Prop := On e fun e => On (sizeA P e) fun n => On (zeroA P e) fun z => On ps fun ps => z.length = n ∧ 0 < n ∧ len * n ≤ 16777216 ∧
      On (fillE n (List.replicate len z) ps) fun es => kr P k (.one (.sl h.length 0 0 len)) (h ++ [.own 0 e n (some len) es])
def bs2 (P : Program) (e : TypeId) (n : Option Nat) (z : Option (List CV)) (len : Nat) (ps : Option (List (Nat × List CV))) (h : AH) (k : Ko) : Prop := On n fun n => On z fun z => On ps fun ps => z.length = n ∧ 0 < n ∧ len * n ≤ 16777216 ∧
      On (fillE n (List.replicate len z) ps) fun es => kr P k (.one (.sl h.length 0 0 len)) (h ++ [.own 0 e n (some len) es])
def bs3 (P : Program) (e n len : Nat) (es : Option (List (List CV))) (h : AH) (k : Ko) : Prop := On es fun es => kr P k (.one (.sl h.length 0 0 len)) (h ++ [.own 0 e n (some len) es])
theorem o_buildSlice (t : TypeId) (len : Nat) (parts : Array (Nat × Operand)) : opG P (.buildSlice t len parts) f h k = bsG P (elemA P t) len (partsA f parts.toList) h k := _root_.id rfl
theorem bs_some (e : TypeId) (len : Nat) (ps : Option (List (Nat × List CV))) : bsG P (some e) len ps h k = bs2 P e (sizeA P e) (zeroA P e) len ps h k := _root_.id rfl
theorem bs2_some (e n len : Nat) (z : List CV) (ps : List (Nat × List CV)) : bs2 P e (some n) (some z) len (some ps) h k = (z.length = n ∧ 0 < n ∧ len * n ≤ 16777216 ∧ bs3 P e n len (fillE n (List.replicate len z) ps) h k) := _root_.id rfl
theorem bs3_some (e n len : Nat) (es : List (List CV)) : bs3 P e n len (some es) h k = kr P k (.one (.sl h.length 0 0 len)) (h ++ [.own 0 e n (some len) es]) := _root_.id rfl
theorem le_maxLen (n : Nat) (hn : n ≤ 1000000) : (n ≤ maxLen) = True := by
  have : (1000000 : Nat) ≤ maxLen := by decide
  exact eq_true (Nat.le_trans hn this)
/-! ### Slices made -/
def mkG (P : Program) (e : Option TypeId) (l c : Option Nat) (h : AH) (k : Ko) : Prop := On e fun e => On (sizeA P e) fun n => On (zeroA P e) fun z => On (bytesA P e) fun by_ => On l fun m => On c fun n2 => m ≤ n2 ∧ z.length = n ∧ 0 < n ∧ by_ * n2 ≤ 281474976710656 ∧ n2 ≤ maxLen ∧
      kr P k (.one (.sl h.length 0 0 m)) (h ++ [.own 0 e n (some n2) (List.replicate m z)])
theorem o_makeSlice (t : TypeId) (l c : Operand) : opG P (.makeSlice t l c) f h k = mkG P (elemA P t) (boundA 0 (some (ev f l))) (boundA 0 (some (ev f c))) h k := _root_.id rfl
def mk2 (P : Program) (e : TypeId) (n : Option Nat) (z : Option (List CV)) (b : Option Nat) (m n2 : Nat) (h : AH) (k : Ko) : Prop := On n fun n => On z fun z => On b fun by_ => m ≤ n2 ∧ z.length = n ∧ 0 < n ∧ by_ * n2 ≤ 281474976710656 ∧ n2 ≤ maxLen ∧ kr P k (.one (.sl h.length 0 0 m)) (h ++ [.own 0 e n (some n2) (List.replicate m z)])
theorem mk_some (e : TypeId) (m n2 : Nat) : mkG P (some e) (some m) (some n2) h k = mk2 P e (sizeA P e) (zeroA P e) (bytesA P e) m n2 h k := by simp only [mkG, mk2, On]
theorem mk2_some (e n m n2 b : Nat) (z : List CV) : mk2 P e (some n) (some z) (some b) m n2 h k = (m ≤ n2 ∧ z.length = n ∧ 0 < n ∧ b * n2 ≤ 281474976710656 ∧ n2 ≤ maxLen ∧ kr P k (.one (.sl h.length 0 0 m)) (h ++ [.own 0 e n (some n2) (List.replicate m z)])) := _root_.id rfl
theorem bd_none (len : Nat) : boundA len none = some len := _root_.id rfl
theorem bd_int (len : Nat) (ki : IntKind) (i : Int) : boundA len (some (.one (.c (.int ki i)))) = if 0 ≤ i then some i.toNat else none := _root_.id rfl
/-! ### Cuts -/
def slG (P : Program) (t : TypeId) (v : AV) (lo hi mx : Option AV) (h : AH) (k : Ko) : Prop := match v with
    | .one (.c (.string s)) => strA P t = true ∧ mx.isNone = true ∧ On (boundA 0 lo) fun i => On (boundA s.size hi) fun j => i ≤ j ∧ j ≤ s.size ∧ kr P k (.one (.c (.string (s.extract i j)))) h
    | .one .nl => On (elemA P t) fun e => (sizeA P e).isSome = true ∧ On (boundA 0 lo) fun i => On (boundA 0 hi) fun j => On (boundA 0 mx) fun m => i = 0 ∧ j = 0 ∧ m = 0 ∧ (mx.isSome = true → hi.isSome = true) ∧ kr P k (.one .nl) h
    | .one .emp => On (elemA P t) fun e => (sizeA P e).isSome = true ∧ On (boundA 0 lo) fun i => On (boundA 0 hi) fun j => On (boundA 0 mx) fun m => i = 0 ∧ j = 0 ∧ m = 0 ∧ (mx.isSome = true → hi.isSome = true) ∧ kr P k (.one .emp) h
    | .one (.im es) => On (elemA P t) fun e => On (sizeA P e) fun n => ksB n es = true ∧ On (boundA 0 lo) fun i => On (boundA es.length hi) fun j => i ≤ j ∧ j ≤ es.length ∧ (match mx with
      | none => kr P k (.one (.im ((es.drop i).take (j - i)))) h
      | some m0 => On (boundA 0 (some m0)) fun m => j ≤ m ∧ m ≤ es.length ∧ hi.isSome = true ∧ m = i ∧ kr P k (.one .emp) h)
    | .one (.sl l g off len) => On (elemA P t) fun e => On (objR h l g) fun q => sizeA P e = some q.2.1 ∧ 0 < q.2.1 ∧ On (boundA 0 lo) fun i => On (boundA len hi) fun j => i ≤ j ∧ off + j ≤ q.2.2.length ∧ (match mx with
      | none => if off + i < q.2.2.length ∨ i = 0 then kr P k (.one (.sl l g (off + i) (j - i))) h else kr P k (.one (.im [])) h
      | some m0 => On (boundA 0 (some m0)) fun m => j ≤ m ∧ off + m ≤ q.2.2.length ∧ hi.isSome = true ∧ m = i ∧ kr P k (.one .emp) h)
    | _ => False
theorem o_slice (t : TypeId) (x : Operand) (lo hi mx : Option Operand) : opG P (.slice t x lo hi mx) f h k = slG P t (ev f x) (lo.map (ev f)) (hi.map (ev f)) (mx.map (ev f)) h k := by
  simp only [opG, aop2, aop, slG, Option.isNone_map, Option.isSome_map]
  cases mx <;> rfl
def ssG (P : Program) (b : Bool) (s : ByteArray) (i j : Option Nat) (h : AH) (k : Ko) : Prop := b = true ∧ On i fun i => On j fun j => i ≤ j ∧ j ≤ s.size ∧ kr P k (.one (.c (.string (s.extract i j)))) h
theorem sl_str (t : TypeId) (s : ByteArray) (lo hi : Option AV) : slG P t (.one (.c (.string s))) lo hi none h k = ssG P (strA P t) s (boundA 0 lo) (boundA s.size hi) h k := by simp [slG, ssG]
theorem ss_some (s : ByteArray) (i j : Nat) : ssG P true s (some i) (some j) h k = (i ≤ j ∧ j ≤ s.size ∧ kr P k (.one (.c (.string (s.extract i j)))) h) := by simp only [ssG, true_and, On]
/-- A slice by content cut with no third bound. -/
def siG (P : Program) (n : Option Nat) (es : List (List CV)) (i j : Option Nat) (h : AH) (k : Ko) : Prop := On n fun n => ksB n es = true ∧ On i fun i => On j fun j => i ≤ j ∧ j ≤ es.length ∧ kr P k (.one (.im ((es.drop i).take (j - i)))) h
theorem sl_im (t : TypeId) (es : List (List CV)) (lo hi : Option AV) : slG P t (.one (.im es)) lo hi none h k = siG P ((elemA P t).bind (sizeA P)) es (boundA 0 lo) (boundA es.length hi) h k := by
  simp only [slG, siG]
  cases elemA P t <;> simp [On]
theorem si_some (n : Nat) (es : List (List CV)) (i j : Nat) : siG P (some n) es (some i) (some j) h k = (ksB n es = true ∧ i ≤ j ∧ j ≤ es.length ∧ kr P k (.one (.im ((es.drop i).take (j - i)))) h) := _root_.id rfl
/-- A slice by content, cut so that nothing may follow. -/
def seG (P : Program) (n : Option Nat) (es : List (List CV)) (i j m : Option Nat) (h : AH) (k : Ko) : Prop := On n fun n => ksB n es = true ∧ On i fun i => On j fun j => On m fun m => i ≤ j ∧ j ≤ m ∧ m ≤ es.length ∧ m = i ∧ kr P k (.one .emp) h
theorem sl_im3 (t : TypeId) (es : List (List CV)) (lo : Option AV) (hi mx : AV) : slG P t (.one (.im es)) lo (some hi) (some mx) h k = seG P ((elemA P t).bind (sizeA P)) es (boundA 0 lo) (boundA es.length (some hi)) (boundA 0 (some mx)) h k := by
  simp only [slG, seG]
  cases elemA P t <;> simp only [On, Option.bind_some, Option.bind_none]
  cases sizeA P _ <;> simp only [Option.isSome_some, true_and]
  cases boundA 0 lo <;> simp only
  cases boundA es.length (some hi) <;> simp only
  cases boundA 0 (some mx) <;> simp only [and_false]
  apply propext
  constructor
  · rintro ⟨h1, h2, h3, h4, h5, h6⟩; exact ⟨h1, h2, h4, h5, h6⟩
  · rintro ⟨h1, h2, h4, h5, h6⟩; exact ⟨h1, h2, Nat.le_trans h4 h5, h4, h5, h6⟩
theorem se_some (n : Nat) (es : List (List CV)) (i j m : Nat) : seG P (some n) es (some i) (some j) (some m) h k = (ksB n es = true ∧ i ≤ j ∧ j ≤ m ∧ m ≤ es.length ∧ m = i ∧ kr P k (.one .emp) h) := _root_.id rfl
/-- A slice of an object cut with no third bound. -/
def sxG (P : Program) (n : Option Nat) (l g off : Nat) (q : Option (TypeId × Nat × List (List CV))) (i j : Option Nat) (h : AH) (k : Ko) : Prop := On q fun q => n = some q.2.1 ∧ 0 < q.2.1 ∧ On i fun i => On j fun j => i ≤ j ∧ off + j ≤ q.2.2.length ∧ (if off + i < q.2.2.length ∨ i = 0 then kr P k (.one (.sl l g (off + i) (j - i))) h else kr P k (.one (.im [])) h)
theorem sl_sl (t : TypeId) (l g off len : Nat) (lo hi : Option AV) (e : TypeId) (he : elemA P t = some e) : slG P t (.one (.sl l g off len)) lo hi none h k = sxG P (sizeA P e) l g off (objR h l g) (boundA 0 lo) (boundA len hi) h k := by
  simp only [slG, sxG, he, On]
def sxE (P : Program) (e : Option TypeId) (l g off : Nat) (q : Option (TypeId × Nat × List (List CV))) (i j : Option Nat) (h : AH) (k : Ko) : Prop := On e fun e => sxG P (sizeA P e) l g off q i j h k
theorem sl_se (t : TypeId) (l g off len : Nat) (lo hi : Option AV) : slG P t (.one (.sl l g off len)) lo hi none h k = sxE P (elemA P t) l g off (objR h l g) (boundA 0 lo) (boundA len hi) h k := by
  cases he : elemA P t with
  | none => simp only [slG, sxE, he, On]
  | some e => rw [sl_sl (e := e) (he := he)]; simp only [sxE, On]
theorem sxe_some (e : TypeId) (l g off : Nat) (q : Option (TypeId × Nat × List (List CV))) (i j : Option Nat) : sxE P (some e) l g off q i j h k = sxG P (sizeA P e) l g off q i j h k := _root_.id rfl
theorem sx_a (n l g off : Nat) (t : TypeId) (es : List (List CV)) (i j : Nat) (hn : 0 < n) (hij : i ≤ j) (hj : off + j ≤ es.length) (hi : off + i < es.length) : sxG P (some n) l g off (some (t, n, es)) (some i) (some j) h k = kr P k (.one (.sl l g (off + i) (j - i))) h := by simp only [sxG, On, hn, hij, hj, true_and, hi, true_or, if_true]
theorem sx_0 (n l g off : Nat) (t : TypeId) (es : List (List CV)) (j : Nat) (hn : 0 < n) (hj : off + j ≤ es.length) : sxG P (some n) l g off (some (t, n, es)) (some 0) (some j) h k = kr P k (.one (.sl l g off j)) h := by simp [sxG, On, hn, hj]
theorem sx_some (n l g off : Nat) (t : TypeId) (es : List (List CV)) (i j : Nat) (hn : 0 < n) (hij : i ≤ j) (hj : off + j ≤ es.length) : sxG P (some n) l g off (some (t, n, es)) (some i) (some j) h k = if off + i < es.length ∨ i = 0 then kr P k (.one (.sl l g (off + i) (j - i))) h else kr P k (.one (.im [])) h := by simp only [sxG, On, hn, hij, hj, true_and]
theorem sl_nl (t : TypeId) (lo hi : Option AV) (e : TypeId) (n : Nat) (he : elemA P t = some e) (hn : sizeA P e = some n) (h1 : boundA 0 lo = some 0) (h2 : boundA 0 hi = some 0) : slG P t (.one .nl) lo hi none h k = kr P k (.one .nl) h := by simp [slG, he, hn, On, h1, h2, bd_none]
/-! ### Closures -/
def capA (f : AF) (h : AH) : List Operand → Option (List Nat)
  | [] => some []
  | x :: r => match ev f x, capA f h r with | .one (.pt l 0 0 0), some q => if (objA h l 0).isSome = true then some (l :: q) else none | _, _ => none
def cap2 (h : AH) (v : AV) (r : Option (List Nat)) : Option (List Nat) := match v, r with | .one (.pt l 0 0 0), some q => if (objA h l 0).isSome = true then some (l :: q) else none | _, _ => none
theorem cap_eq (f : AF) (h : AH) : ∀ xs : List Operand, (xs.mapM fun x => match ev f x with | .one (.pt l 0 0 0) => if (objA h l 0).isSome = true then some l else none | _ => none) = capA f h xs
  | [] => by simp [capA]
  | x :: r => by
    rw [List.mapM_cons, cap_eq f h r]
    show _ = (match ev f x, capA f h r with | .one (.pt l 0 0 0), some q => if (objA h l 0).isSome = true then some (l :: q) else none | _, _ => none)
    have key : ∀ v : AV, ((match v with | .one (.pt l 0 0 0) => if (objA h l 0).isSome = true then some l else none | _ => none) >>= fun a => (capA f h r) >>= fun b => pure (a :: b)) = (match v, capA f h r with | .one (.pt l 0 0 0), some q => if (objA h l 0).isSome = true then some (l :: q) else none | _, _ => none) := by
      intro v
      split
      · split
        · cases capA f h r <;> simp_all
        · cases capA f h r <;> simp_all
      · rename_i hne
        cases capA f h r with
        | none => simp
        | some q =>
          simp only [Option.bind_eq_bind, Option.bind_none]
          split
          · rename_i l q' hv hq
            exact absurd rfl (hne _)
          · rfl
    exact key (ev f x)
theorem cap_nil : capA f h [] = some [] := _root_.id rfl
theorem cap_cons (x : Operand) (r : List Operand) : capA f h (x :: r) = cap2 h (ev f x) (capA f h r) := _root_.id rfl
theorem cap2_some (l : Nat) (r : List Nat) : cap2 h (.one (.pt l 0 0 0)) (some r) = if (objA h l 0).isSome = true then some (l :: r) else none := _root_.id rfl
def mfG (P : Program) (g : Nat) (b : Bool) (ls : Option (List Nat)) (h : AH) (k : Ko) : Prop := b = true ∧ On ls fun ls => kr P k (.one (.clo g ls)) h
theorem o_makeFunc (g : Nat) (first captured : Array Operand) : opG P (.makeFunc (.func g) first captured) f h k = mfG P g (first.size == 0) (capA f h captured.toList) h k := by
  simp only [opG, aop2, aop, mfG, beq_iff_eq]
  rw [← cap_eq]
  rfl
theorem mf_some (g : Nat) (ls : List Nat) : mfG P g true (some ls) h k = kr P k (.one (.clo g ls)) h := by simp only [mfG, On, true_and]
/-! ### Conversions -/
def cvG (P : Program) (src dst : TypeId) (v : AV) (h : AH) (k : Ko) : Prop := match v with
    | .one (.c (.string s)) => if strA P dst = true then (P.underlying src).isSome = true ∧ kr P k (.one (.c (.string s))) h else strA P src = true ∧ On (elemA P dst) fun e => kindA P e = some .u8 ∧ s.size ≤ maxLen ∧
        (kr P k (.one (.sl h.length 0 0 s.size)) (h ++ [.own 0 e 1 none (bytesE s)]))
    | .one (.c (.int ki n)) => (match kindA P dst with
      | some k' => (P.underlying src).isSome = true ∧ kr P k (.one (.c (.int k' (k'.wrap n)))) h
      | _ => False)
    | v => strA P dst = true ∧ On (elemA P src) fun e => kindA P e = some .u8 ∧ On (rowA h 1 v) fun r => On (bytesOf r) fun xs => kr P k (.one (.c (.string (strOf xs)))) h
theorem o_convert (src dst : TypeId) (x : Operand) : opG P (.convert src dst x) f h k = cvG P src dst (ev f x) h k := by
  simp only [opG, aop2, aop, cvG]
  split
  · rename_i s hs
    simp only [hs]
  · rename_i ki n hx
    simp only [aop1, hx]
    cases kindA P dst <;> rfl
  · rename_i h1 h2
    split
    · rename_i s hs; exact absurd hs (h1 s)
    · rename_i ki n hs; exact absurd hs (h2 ki n)
    · rfl
def ciG (P : Program) (ki : Option IntKind) (b : Bool) (n : Int) (h : AH) (k : Ko) : Prop := match ki with | some k' => b = true ∧ kr P k (.one (.c (.int k' (k'.wrap n)))) h | none => False
theorem cv_int (src dst : TypeId) (ki : IntKind) (n : Int) : cvG P src dst (.one (.c (.int ki n))) h k = ciG P (kindA P dst) (P.underlying src).isSome n h k := by
  simp only [cvG, ciG]
  cases kindA P dst <;> rfl
theorem ci_some (ki : IntKind) (n : Int) : ciG P (some ki) true n h k = kr P k (.one (.c (.int ki (ki.wrap n)))) h := by simp only [ciG, true_and]
def csG (P : Program) (d s : Bool) (u : Bool) (e : Option TypeId) (t : ByteArray) (h : AH) (k : Ko) : Prop := if d = true then u = true ∧ kr P k (.one (.c (.string t))) h else s = true ∧ On e fun e => kindA P e = some .u8 ∧ t.size ≤ maxLen ∧ kr P k (.one (.sl h.length 0 0 t.size)) (h ++ [.own 0 e 1 none (bytesE t)])
theorem cv_str (src dst : TypeId) (t : ByteArray) : cvG P src dst (.one (.c (.string t))) h k = csG P (strA P dst) (strA P src) (P.underlying src).isSome (elemA P dst) t h k := _root_.id rfl
theorem cs_ss (s : Bool) (e : Option TypeId) (t : ByteArray) : csG P true s true e t h k = kr P k (.one (.c (.string t))) h := by simp only [csG, if_true, true_and]
theorem cs_sb (u : Bool) (e : TypeId) (t : ByteArray) : csG P false true u (some e) t h k = (kindA P e = some .u8 ∧ t.size ≤ maxLen ∧ kr P k (.one (.sl h.length 0 0 t.size)) (h ++ [.own 0 e 1 none (bytesE t)])) := by simp only [csG, Bool.false_eq_true, if_false, true_and, On]
def sbG (P : Program) (b : Bool) (e : Option TypeId) (r : Option (List (List CV))) (h : AH) (k : Ko) : Prop := b = true ∧ On e fun e => kindA P e = some .u8 ∧ On r fun r => On (bytesOf r) fun xs => kr P k (.one (.c (.string (strOf xs)))) h
theorem cv_sl (src dst : TypeId) (l g off len : Nat) : cvG P src dst (.one (.sl l g off len)) h k = sbG P (strA P dst) (elemA P src) (rowA h 1 (.one (.sl l g off len))) h k := _root_.id rfl
theorem cv_im (src dst : TypeId) (es : List (List CV)) : cvG P src dst (.one (.im es)) h k = sbG P (strA P dst) (elemA P src) (rowA h 1 (.one (.im es))) h k := _root_.id rfl
theorem cv_nl (src dst : TypeId) : cvG P src dst (.one .nl) h k = sbG P (strA P dst) (elemA P src) (rowA h 1 (.one .nl)) h k := _root_.id rfl
theorem cv_emp (src dst : TypeId) : cvG P src dst (.one .emp) h k = sbG P (strA P dst) (elemA P src) (rowA h 1 (.one .emp)) h k := _root_.id rfl
def soG (P : Program) (xs : Option (List Int)) (h : AH) (k : Ko) : Prop := On xs fun xs => kr P k (.one (.c (.string (strOf xs)))) h
theorem sb_some (e : TypeId) (es : List (List CV)) : sbG P true (some e) (some es) h k = (kindA P e = some .u8 ∧ soG P (bytesOf es) h k) := by simp only [sbG, true_and, On, soG]
theorem so_some (xs : List Int) : soG P (some xs) h k = kr P k (.one (.c (.string (strOf xs)))) h := _root_.id rfl
/-! ### Appends, copies -/
def apG (P : Program) (e : Option TypeId) (t2 : TypeId) (s x : AV) (h : AH) (k : Ko) : Prop := On e fun e => On (sizeA P e) fun n => On (bytesA P e) fun by_ => On (zeroA P e) fun z => z.length = n ∧ 0 < n ∧ 0 < by_ ∧ On (srcA P t2 h n by_ z x) fun r => appA e n by_ h s r (kr P k)
theorem o_append (s x : Operand) (t t2 : TypeId) : opG P (.call { callee := .builtin .append, args := #[s, x], argTypes := #[t, t2] }) f h k = apG P (elemA P t) t2 (ev f s) (ev f x) h k := _root_.id rfl
def apR (P : Program) (e n by_ : Nat) (s : AV) (r : Option (List (List CV))) (h : AH) (k : Ko) : Prop := On r fun r => appA e n by_ h s r (kr P k)
def ap3 (P : Program) (e : TypeId) (n by_ : Option Nat) (z : Option (List CV)) (t2 : TypeId) (s x : AV) (h : AH) (k : Ko) : Prop := On n fun n => On by_ fun by_ => On z fun z => z.length = n ∧ 0 < n ∧ 0 < by_ ∧ apR P e n by_ s (srcA P t2 h n by_ z x) h k
theorem ap_some (e : TypeId) (t2 : TypeId) (s x : AV) : apG P (some e) t2 s x h k = ap3 P e (sizeA P e) (bytesA P e) (zeroA P e) t2 s x h k := _root_.id rfl
theorem ap3_some (e n by_ : Nat) (z : List CV) (t2 : TypeId) (s x : AV) : ap3 P e (some n) (some by_) (some z) t2 s x h k = (z.length = n ∧ 0 < n ∧ 0 < by_ ∧ apR P e n by_ s (srcA P t2 h n by_ z x) h k) := _root_.id rfl
def srB (P : Program) (b : Bool) (ki : Bool) (h : AH) (n by_ : Nat) (z : List CV) (x : AV) : Option (List (List CV)) := if b = true then rowA h n x else if ki = true then (match x with
    | .one (.c (.int _ i)) => if 0 ≤ i ∧ i ≤ 9223372036854775807 ∧ i.toNat * by_ ≤ 281474976710656 then some (List.replicate i.toNat z) else none
    | _ => none) else none
theorem src_at (t2 : TypeId) (n by_ : Nat) (z : List CV) (x : AV) : srcA P t2 h n by_ z x = srB P ((elemA P t2).isSome || strA P t2) (kindA P t2).isSome h n by_ z x := _root_.id rfl
theorem srB_t (ki : Bool) (n by_ : Nat) (z : List CV) (x : AV) : srB P true ki h n by_ z x = rowA h n x := by simp [srB]
theorem srB_i (n by_ : Nat) (z : List CV) (k' : IntKind) (i : Int) : srB P false true h n by_ z (.one (.c (.int k' i))) = if 0 ≤ i ∧ i ≤ 9223372036854775807 ∧ i.toNat * by_ ≤ 281474976710656 then some (List.replicate i.toNat z) else none := by simp [srB]
def rwG (n : Nat) (q : Option (TypeId × Nat × List (List CV))) (off len : Nat) : Option (List (List CV)) := q.bind fun q => if q.2.1 = n ∧ off + len ≤ q.2.2.length then some ((q.2.2.drop off).take len) else none
theorem row_sl (n l g off len : Nat) : rowA h n (.one (.sl l g off len)) = rwG n (objR h l g) off len := _root_.id rfl
theorem rw_some (n off len : Nat) (t : TypeId) (es : List (List CV)) : rwG n (some (t, n, es)) off len = if off + len ≤ es.length then some ((es.drop off).take len) else none := by simp [rwG]
theorem rw_all (n : Nat) (t : TypeId) (es : List (List CV)) : rwG n (some (t, n, es)) 0 es.length = some es := by simp [rwG]
theorem row_nl (n : Nat) : rowA h n (.one .nl) = some [] := _root_.id rfl
theorem row_emp (n : Nat) : rowA h n (.one .emp) = some [] := _root_.id rfl
theorem row_im (n : Nat) (es : List (List CV)) : rowA h n (.one (.im es)) = if ksB n es = true then some es else none := _root_.id rfl
theorem row_str (s : ByteArray) : rowA h 1 (.one (.c (.string s))) = some (bytesE s) := _root_.id rfl
theorem ks_nil (n : Nat) : ksB n [] = true := _root_.id rfl
theorem ks_cons (n : Nat) (e : List CV) (r : List (List CV)) : ksB n (e :: r) = (e.length == n && ksB n r) := _root_.id rfl
theorem ks_map {α : Type} (n : Nat) (enc : α → List CV) (xs : List α) (he : ∀ x, (enc x).length = n) : ksB n (xs.map enc) = true := by simp [ksB, he]
theorem ks_app (n : Nat) (xs ys : List (List CV)) : ksB n (xs ++ ys) = (ksB n xs && ksB n ys) := by simp [ksB]
theorem ks_take (n m : Nat) (xs : List (List CV)) (hx : ksB n xs = true) : ksB n (xs.take m) = true := by
  simp only [ksB, List.all_eq_true] at hx ⊢
  exact fun e he => hx e (List.mem_of_mem_take he)
theorem ks_drop (n m : Nat) (xs : List (List CV)) (hx : ksB n xs = true) : ksB n (xs.drop m) = true := by
  simp only [ksB, List.all_eq_true] at hx ⊢
  exact fun e he => hx e (List.mem_of_mem_drop he)
theorem ks_bytes (s : ByteArray) : ksB 1 (bytesE s) = true := by
  simp only [ksB, bytesE, List.all_eq_true]
  intro e he
  obtain ⟨b, _, rfl⟩ := List.mem_map.1 he
  rfl
/-- An append of one element or more behind all elements of an owned object. -/
theorem ap_end {e n by_ l g : Nat} {cap : Option Nat} {es news : List (List CV)} {len : Nat} {h : AH} {k : Ko} {P : Program} (hl : h[l]? = some (.own g e n cap es)) (hc : len = es.length) (hb : (es.length + news.length) * by_ ≤ 140737488355328)
    (hK : kr P k (.one (.sl l (g + 1) 0 (es.length + news.length))) (h.set l (.own (g + 1) e n none (es ++ news)))) : apR P e n by_ (.one (.sl l g 0 len)) (some news) h k := by
  subst hc
  simp only [apR, On, appA, objA_at, hl, obA_own, true_and]
  refine .inr (.inl ⟨Nat.le_refl _, hb, ?_⟩)
  rw [List.take_of_length_le (Nat.le_refl _)]
  exact hK
/-- An append to nothing. -/
theorem ap_nl {e n by_ : Nat} {news : List (List CV)} {h : AH} {k : Ko} {P : Program} (hb : news.length * by_ ≤ 140737488355328)
    (hK : kr P k (.one (.sl h.length 0 0 news.length)) (h ++ [.own 0 e n none news])) : apR P e n by_ (.one .nl) (some news) h k := ⟨hb, hK⟩
theorem ap_emp {e n by_ : Nat} {news : List (List CV)} {h : AH} {k : Ko} {P : Program} (hb : news.length * by_ ≤ 140737488355328)
    (hK : kr P k (.one (.sl h.length 0 0 news.length)) (h ++ [.own 0 e n none news])) : apR P e n by_ (.one .emp) (some news) h k := ⟨hb, hK⟩
/-- An append over elements that are there. -/
theorem ap_in {e n by_ l g off len : Nat} {cap : Option Nat} {es news : List (List CV)} {h : AH} {k : Ko} {P : Program} (hl : h[l]? = some (.own g e n cap es)) (hc : off + len + news.length ≤ es.length)
    (hK : kr P k (.one (.sl l g off (len + news.length))) (h.set l (.own g e n cap (cset es (off + len) news)))) : apR P e n by_ (.one (.sl l g off len)) (some news) h k := by
  simp only [apR, On, appA, objA_at, hl, obA_own, true_and]
  exact .inl ⟨hc, hK⟩
/-- An append beyond a known capacity: the old row stays. -/
theorem ap_new {e n by_ l g len c : Nat} {es news : List (List CV)} {h : AH} {k : Ko} {P : Program} (hl : h[l]? = some (.own g e n (some c) es)) (hle : len ≤ es.length) (hc : c < len + news.length) (hb : (len + news.length) * by_ ≤ 140737488355328)
    (hK : kr P k (.one (.sl h.length 0 0 (len + news.length))) (h ++ [.own 0 e n none (es.take len ++ news)])) : apR P e n by_ (.one (.sl l g 0 len)) (some news) h k := by
  simp only [apR, On, appA, objA_at, hl, obA_own, true_and]
  exact .inr (.inr ⟨hle, hb, ⟨c, rfl, hc⟩, hK⟩)
/-- An append over a first part. -/
theorem ap_cut {e n by_ l g len : Nat} {cap : Option Nat} {es news : List (List CV)} {h : AH} {k : Ko} {P : Program} (hl : h[l]? = some (.own g e n cap es)) (hle : len ≤ es.length) (hb : (len + news.length) * by_ ≤ 140737488355328)
    (hK : kr P k (.one (.sl l (g + 1) 0 (len + news.length))) (h.set l (.own (g + 1) e n none (es.take len ++ news)))) : apR P e n by_ (.one (.sl l g 0 len)) (some news) h k := by
  simp only [apR, On, appA, objA_at, hl, obA_own, true_and]
  exact .inr (.inl ⟨hle, hb, hK⟩)
theorem ap_im0 {e n by_ : Nat} {es : List (List CV)} {h : AH} {k : Ko} {P : Program} (hK : kr P k (.one (.im es)) h) : apR P e n by_ (.one (.im es)) (some []) h k := ⟨rfl, hK⟩
def cpG (P : Program) (n : Option Nat) (s x : AV) (h : AH) (k : Ko) : Prop := On n fun n => On (rowA h n x) fun r => copA h s r n (kr P k)
theorem o_copy (s x : Operand) (t t2 : TypeId) : opG P (.call { callee := .builtin .copy, args := #[s, x], argTypes := #[t, t2] }) f h k = cpG P ((elemA P t).bind (sizeA P)) (ev f s) (ev f x) h k := by
  simp only [opG, aop2, aop, cpG]
  cases elemA P t <;> simp only [On, Option.bind_some, Option.bind_none]
theorem cp_sl {n l g off len : Nat} {t : TypeId} {cap : Option Nat} {es news : List (List CV)} {h : AH} {k : Ko} {P : Program} {x : AV} (hr : rowA h n x = some news) (hl : h[l]? = some (.own g t n cap es)) (hle : off + len ≤ es.length)
    (hK : kr P k (.one (.c (.int .i64 ((min news.length len : Nat) : Int)))) (h.set l (.own g t n cap (cset es off (news.take (min news.length len)))))) : cpG P (some n) (.one (.sl l g off len)) x h k := by
  simp only [cpG, On, hr, copA, objA_at, hl, obA_own, true_and]
  exact ⟨hle, hK⟩
def crG (P : Program) (z : Option (List CV)) (s : AV) (h : AH) (k : Ko) : Prop := On z fun z => 0 < z.length ∧ clrA h s z (kr P k)
theorem o_clear (s : Operand) (t : TypeId) : opG P (.call { callee := .builtin .clear, args := #[s], argTypes := #[t] }) f h k = crG P ((elemA P t).bind (zeroA P)) (ev f s) h k := by
  simp only [opG, aop2, aop, crG]
  cases elemA P t <;> simp only [On, Option.bind_some, Option.bind_none]
theorem cr_im0 (z : List CV) (hz : 0 < z.length) : crG P (some z) (.one (.im [])) h k = kr P k (.tup []) h := by simp [crG, On, clrA, hz]
theorem cr_nl (z : List CV) (hz : 0 < z.length) : crG P (some z) (.one .nl) h k = kr P k (.tup []) h := by simp [crG, On, clrA, hz]
theorem cr_emp (z : List CV) (hz : 0 < z.length) : crG P (some z) (.one .emp) h k = kr P k (.tup []) h := by simp [crG, On, clrA, hz]
theorem cr_sl {l g off len : Nat} {t : TypeId} {cap : Option Nat} {es : List (List CV)} {h : AH} {k : Ko} {P : Program} {z : List CV} (hz : 0 < z.length) (hl : h[l]? = some (.own g t z.length cap es)) (hle : off + len ≤ es.length)
    (hK : kr P k (.tup []) (h.set l (.own g t z.length cap (cset es off (List.replicate len z))))) : crG P (some z) (.one (.sl l g off len)) h k := by
  simp only [crG, On, clrA, objA_at, hl, obA_own, true_and]
  exact ⟨hz, hle, hK⟩
def cgG (P : Program) (b : Bool) (s : AV) (h : AH) (k : Ko) : Prop := b = true ∧ capG0 h s (kr P k)
theorem o_cap (x : Operand) (t : TypeId) : opG P (.call { callee := .builtin .cap, args := #[x], argTypes := #[t] }) f h k = cgG P (elemA P t).isSome (ev f x) h k := _root_.id rfl
theorem cg_sl {l g off len : Nat} {t : TypeId} {n : Nat} {cap : Option Nat} {es : List (List CV)} {h : AH} {k : Ko} {P : Program} (hl : h[l]? = some (.own g t n cap es))
    (hK : ∀ c : Nat, es.length ≤ c → (∀ c', cap = some c' → c = c') → kr P k (.one (.c (.int .i64 ((c - off : Nat) : Int)))) (h.set l (.own g t n (some c) es))) : cgG P true (.one (.sl l g off len)) h k := by
  simp only [cgG, capG0, objA_at, hl, obA_own, true_and, On]
  exact fun c h1 h2 => .inl (hK c h1 h2)
theorem cg_sp {l g off len : Nat} {t : TypeId} {n : Nat} {cap : Option Nat} {es : List (List CV)} {h : AH} {k : Ko} {P : Program} (hl : h[l]? = some (.own g t n cap es))
    (hK : ∀ c : Nat, es.length ≤ c → (∀ c', cap = some c' → c = c') → (kr P k (.one (.c (.int .i64 ((c - off : Nat) : Int)))) (h.set l (.own g t n (some c) es)) ∨ kr P k (.one (.c (.int .i64 ((c - off : Nat) : Int)))) (h.set l (.own g t n (some c) (spareE n c es))))) : cgG P true (.one (.sl l g off len)) h k := by
  simp only [cgG, capG0, objA_at, hl, obA_own, true_and, On]
  exact hK
theorem cg_nl : cgG P true (.one .nl) h k = kr P k (.one (.c (.int .i64 0))) h := by simp [cgG, capG0]
theorem cg_emp : cgG P true (.one .emp) h k = kr P k (.one (.c (.int .i64 0))) h := by simp [cgG, capG0]
def mmG (P : Program) (b : Bool) (x y : AV) (h : AH) (k : Ko) : Prop := match x, y with
        | .one (.c (.int ki a)), .one (.c (.int k' c)) => kr P k (.one (.c (.int ki (if b = true then (if a < c then c else a) else (if c < a then c else a))))) h
        | _, _ => False
theorem o_min (x y : Operand) (ts : Array TypeId) : opG P (.call { callee := .builtin .min, args := #[x, y], argTypes := ts }) f h k = mmG P false (ev f x) (ev f y) h k := by
  simp only [opG, aop2, aop, mmG, Bool.false_eq_true, if_false]
  rfl
theorem o_max (x y : Operand) (ts : Array TypeId) : opG P (.call { callee := .builtin .max, args := #[x, y], argTypes := ts }) f h k = mmG P true (ev f x) (ev f y) h k := by
  simp only [opG, aop2, aop, mmG, if_true]
  rfl
theorem mm_f (ki : IntKind) (a c : Int) : mmG P false (.one (.c (.int ki a))) (.one (.c (.int ki c))) h k = kr P k (.one (.c (.int ki (if c < a then c else a)))) h := by simp [mmG]
theorem mm_t (ki : IntKind) (a c : Int) : mmG P true (.one (.c (.int ki a))) (.one (.c (.int ki c))) h k = kr P k (.one (.c (.int ki (if a < c then c else a)))) h := by simp [mmG]
end
/-! ### Regions of open order -/
section
variable (P : Program) (f : AF) (h : AH) (ds : DS) (ops : Array Oper) (s : List Fr) (Q : QT) (pr : List (Nat × Option AO)) (r : List (Nat × Bool × Bool))
def d2G (P : Program) (ds : DS) (ops : Array Oper) (o : Option Oper) (tk sy : Bool) (r : List (Nat × Bool × Bool)) (s : List Fr) (Q : QT) (f : AF) (h : AH) (pr : List (Nat × Option AO)) : Prop := match o with
  | none => False
  | some o => match tk with
      | true => wantA ds f o.guard
          (fun _ => On (takeA P o.op f h) fun v => adraw P ds ops r (ks P s Q .normal) (put f o.dst v.1) h (prAdd v h pr))
          (fun _ => adraw P ds ops r (ks P s Q .normal) (put f o.dst undefA) h pr)
      | false => wantA ds f o.guard
          (fun _ => aop2 P o.op f h (fun v h' => ((sy && allSy r) = true ∨ ∀ p ∈ pr, prOk o.op f h' p) ∧ adraw P ds ops r (ks P s Q .normal) (put f o.dst v) h' pr) (fun v h' => ((sy && allSy r) = true ∨ ∀ p ∈ pr, prOk0 h' p) ∧ adraw P ds ops r (ks P s Q .normal) (put f o.dst v) h' pr) (fun q v h' => ((sy && allSy r) = true ∨ ∀ p ∈ pr, prOkF q h' p) ∧ adraw P ds ops r (ks P s Q .normal) (put f o.dst v) h' pr))
          (fun _ => ((sy && allSy r) = true ∨ ∀ p ∈ pr, prOk0 h p) ∧ adraw P ds ops r (ks P s Q .normal) (put f o.dst undefA) h pr)
theorem d_nil : drG P ds ops [] s Q f h pr = nxG P .normal s Q f h := _root_.id rfl
theorem d_cons (i : Nat) (tk sy : Bool) : drG P ds ops ((i, tk, sy) :: r) s Q f h pr = d2G P ds ops ops[i]? tk sy r s Q f h pr := _root_.id rfl
theorem d_op (dst : Option Nat) (op : Op) (ty : TypeId) (pos : String) (af : Array Edge) (sy : Bool) : d2G P ds ops (some ⟨dst, op, ty, pos, af, none⟩) false sy r s Q f h pr = opG P op f h (.dr ds ops dst op r sy s Q f pr) := _root_.id rfl
theorem d_want (dst : Option Nat) (op : Op) (ty : TypeId) (pos : String) (af : Array Edge) (sy : Bool) (j : Nat) (t : Bool) : d2G P ds ops (some ⟨dst, op, ty, pos, af, some (j, t)⟩) false sy r s Q f h pr = wtG P (gslot ds f j) t op f h (.dr ds ops dst op r sy s Q f pr) := _root_.id rfl
/-- What is taken, and what is then held. -/
def tkG (P : Program) (v : Option (AV × Option Nat)) (ds : DS) (ops : Array Oper) (dst : Option Nat) (r : List (Nat × Bool × Bool)) (s : List Fr) (Q : QT) (f : AF) (h : AH) (pr : List (Nat × Option AO)) : Prop :=
  On v fun v => adraw P ds ops r (ks P s Q .normal) (put f dst v.1) h (prAdd v h pr)
def heldG (b : Bool) (o : Option AO) (l : Nat) (pr : List (Nat × Option AO)) : List (Nat × Option AO) := match o with | some (.own g t n cap es) => (l, if b = true then some (.own g t n cap es) else none) :: pr | _ => pr
theorem held_p (l g : Nat) (t : TypeId) (n : Nat) (cap : Option Nat) (es : List (List CV)) : heldG true (some (.own g t n cap es)) l pr = (l, some (.own g t n cap es)) :: pr := _root_.id rfl
theorem held_s (l g : Nat) (t : TypeId) (n : Nat) (cap : Option Nat) (es : List (List CV)) : heldG false (some (.own g t n cap es)) l pr = (l, none) :: pr := _root_.id rfl
theorem held_ro (b : Bool) (l g : Nat) (t : TypeId) (n : Nat) (es : List (List CV)) : heldG b (some (.ro g t n es)) l pr = pr := _root_.id rfl
theorem d_tk (dst : Option Nat) (op : Op) (ty : TypeId) (pos : String) (af : Array Edge) (sy : Bool) : d2G P ds ops (some ⟨dst, op, ty, pos, af, none⟩) true sy r s Q f h pr = tkG P (takeA P op f h) ds ops dst r s Q f h pr := _root_.id rfl
def twG (P : Program) (g : AV) (t : Bool) (v : Option (AV × Option Nat)) (ds : DS) (ops : Array Oper) (dst : Option Nat) (r : List (Nat × Bool × Bool)) (s : List Fr) (Q : QT) (f : AF) (h : AH) (pr : List (Nat × Option AO)) : Prop :=
  wantB g t (fun _ => tkG P v ds ops dst r s Q f h pr) (fun _ => adraw P ds ops r (ks P s Q .normal) (put f dst undefA) h pr)
theorem d_tw (dst : Option Nat) (op : Op) (ty : TypeId) (pos : String) (af : Array Edge) (sy : Bool) (j : Nat) (t : Bool) : d2G P ds ops (some ⟨dst, op, ty, pos, af, some (j, t)⟩) true sy r s Q f h pr = twG P (gslot ds f j) t (takeA P op f h) ds ops dst r s Q f h pr := _root_.id rfl
theorem tk_v (v : AV) (d : Nat) : tkG P (some (v, none)) ds ops (some d) r s Q f h pr = drG P ds ops r s Q (upd f d v) h pr := _root_.id rfl
theorem tk_l (v : AV) (d l : Nat) : tkG P (some (v, some l)) ds ops (some d) r s Q f h pr = drG P ds ops r s Q (upd f d v) h (heldG (plainA v) h[l]? l pr) := _root_.id rfl
theorem tw_tt (v : Option (AV × Option Nat)) (dst : Option Nat) : twG P (.one (.c (.bool true))) true v ds ops dst r s Q f h pr = tkG P v ds ops dst r s Q f h pr := _root_.id rfl
theorem tw_ff (v : Option (AV × Option Nat)) (dst : Option Nat) : twG P (.one (.c (.bool false))) false v ds ops dst r s Q f h pr = tkG P v ds ops dst r s Q f h pr := _root_.id rfl
theorem tw_tf (v : Option (AV × Option Nat)) (d : Nat) : twG P (.one (.c (.bool true))) false v ds ops (some d) r s Q f h pr = drG P ds ops r s Q (upd f d undefA) h pr := _root_.id rfl
theorem tw_ft (v : Option (AV × Option Nat)) (d : Nat) : twG P (.one (.c (.bool false))) true v ds ops (some d) r s Q f h pr = drG P ds ops r s Q (upd f d undefA) h pr := _root_.id rfl
theorem tw_u (t : Bool) (v : Option (AV × Option Nat)) (d : Nat) : twG P undefA t v ds ops (some d) r s Q f h pr = drG P ds ops r s Q (upd f d undefA) h pr := wantB_u _ _ _
theorem t_move (x : Operand) : takeA P (.move x) f h = some (ev f x, none) := _root_.id rfl
theorem t_assign (x : Operand) : takeA P (.assign x) f h = some (ev f x, none) := _root_.id rfl
def tsI (k : Option Nat) (es : List (List CV)) (i j : Option Nat) : Option (AV × Option Nat) := k.bind fun k => i.bind fun i => j.bind fun j => if ksB k es = true ∧ i ≤ j ∧ j ≤ es.length then some (.one (.im ((es.drop i).take (j - i))), none) else none
def tsS (n : Option Nat) (q : Option (TypeId × Nat × List (List CV))) (l g off : Nat) (i j : Option Nat) : Option (AV × Option Nat) := q.bind fun q => i.bind fun i => j.bind fun j => if n = some q.2.1 ∧ i ≤ j ∧ off + j ≤ q.2.2.length ∧ (off + i < q.2.2.length ∨ i = 0) then some (.one (.sl l g (off + i) (j - i)), none) else none
def tsE (P : Program) (e : Option TypeId) (q : Option (TypeId × Nat × List (List CV))) (l g off : Nat) (i j : Option Nat) : Option (AV × Option Nat) := e.bind fun e => tsS (sizeA P e) q l g off i j
def tsT (b : Bool) (s : ByteArray) (i j : Option Nat) : Option (AV × Option Nat) := i.bind fun i => j.bind fun j => if b = true ∧ i ≤ j ∧ j ≤ s.size then some (.one (.c (.string (s.extract i j))), none) else none
def tsG (P : Program) (t : TypeId) (h : AH) (v : AV) (lo hi : Option AV) : Option (AV × Option Nat) := match v with
  | .one (.im es) => tsI ((elemA P t).bind (sizeA P)) es (boundA 0 lo) (boundA es.length hi)
  | .one (.sl l g off len) => tsE P (elemA P t) (objR h l g) l g off (boundA 0 lo) (boundA len hi)
  | .one (.c (.string s)) => tsT (strA P t) s (boundA 0 lo) (boundA s.size hi)
  | _ => none
theorem t_slice (t : TypeId) (x : Operand) (lo hi : Option Operand) : takeA P (.slice t x lo hi none) f h = tsG P t h (ev f x) (lo.map (ev f)) (hi.map (ev f)) := by
  simp only [takeA, tsG]
  cases hx : ev f x with
  | one x =>
    cases x with
    | im es => simp only [tsI]; cases elemA P t <;> rfl
    | c v => cases v <;> rfl
    | _ => rfl
  | _ => rfl
theorem ts_sl (t : TypeId) (l g off len : Nat) (lo hi : Option AV) : tsG P t h (.one (.sl l g off len)) lo hi = tsE P (elemA P t) (objR h l g) l g off (boundA 0 lo) (boundA len hi) := _root_.id rfl
theorem tsE_some (e : TypeId) (q : Option (TypeId × Nat × List (List CV))) (l g off : Nat) (i j : Option Nat) : tsE P (some e) q l g off i j = tsS (sizeA P e) q l g off i j := _root_.id rfl
theorem tsS_some (n : Nat) (t : TypeId) (es : List (List CV)) (l g off i j : Nat) (h1 : i ≤ j) (h2 : off + j ≤ es.length) (h3 : off + i < es.length) : tsS (some n) (some (t, n, es)) l g off (some i) (some j) = some (.one (.sl l g (off + i) (j - i)), none) := by simp [tsS, h1, h2, h3]
theorem tsS_0 (n : Nat) (t : TypeId) (es : List (List CV)) (l g off j : Nat) (h2 : off + j ≤ es.length) : tsS (some n) (some (t, n, es)) l g off (some 0) (some j) = some (.one (.sl l g off j), none) := by simp [tsS, h2]
theorem ts_str (t : TypeId) (s : ByteArray) (lo hi : Option AV) : tsG P t h (.one (.c (.string s))) lo hi = tsT (strA P t) s (boundA 0 lo) (boundA s.size hi) := _root_.id rfl
theorem tsT_some (s : ByteArray) (i j : Nat) (h1 : i ≤ j) (h2 : j ≤ s.size) : tsT true s (some i) (some j) = some (.one (.c (.string (s.extract i j))), none) := by simp [tsT, h1, h2]
theorem ts_im (t : TypeId) (es : List (List CV)) (lo hi : Option AV) : tsG P t h (.one (.im es)) lo hi = tsI ((elemA P t).bind (sizeA P)) es (boundA 0 lo) (boundA es.length hi) := _root_.id rfl
theorem tsI_some (k : Nat) (es : List (List CV)) (i j : Nat) (hk : ksB k es = true) (h1 : i ≤ j) (h2 : j ≤ es.length) : tsI (some k) es (some i) (some j) = some (.one (.im ((es.drop i).take (j - i))), none) := by simp [tsI, hk, h1, h2]
def tagB (o : Option (List CV)) : Option (AV × Option Nat) := o.map fun cs => (.agg cs, none)
theorem tagB_some (cs : List CV) : tagB (some cs) = some (.agg cs, none) := _root_.id rfl
def tbdG (pl : Option (List (Nat × Nat))) (z : Option (List CV)) (ps : Option (List (Nat × List CV))) : Option (AV × Option Nat) := pl.bind fun pl => z.bind fun z => ps.bind fun ps => tagB (fillA (pl[·]?) z ps)
theorem t_build (t : TypeId) (parts : Array (Nat × Operand)) : takeA P (.build t parts) f h = tbdG (placesA P t) (zeroA P t) (partsA f parts.toList) := _root_.id rfl
theorem tbd_some (pl : List (Nat × Nat)) (z : List CV) (ps : List (Nat × List CV)) : tbdG (some pl) (some z) (some ps) = tagB (flG pl z ps) := _root_.id rfl
def tkN (P : Program) (b : Bool) (v : AV) : Option (AV × Option Nat) := if b = true then some (v, none) else none
theorem tkN_t (P : Program) (v : AV) : tkN P true v = some (v, none) := by simp [tkN]
def tncG (P : Program) (v : AV) (h : AH) : Option (AV × Option Nat) := match v with
  | .one (.pt l g i off) => tkN P (objR h l g).isSome (.one (.pt l g i off))
  | .one (.pel e off) => some (.one (.pel e off), none)
  | _ => none
theorem t_nilCheck (x : Operand) : takeA P (.nilCheck x) f h = tncG P (ev f x) h := by
  simp only [takeA, tncG, tkN]
  split <;> simp_all only
theorem tnc_pt (l g i off : Nat) : tncG P (.one (.pt l g i off)) h = tkN P (objR h l g).isSome (.one (.pt l g i off)) := _root_.id rfl
theorem tnc_pel (e : List CV) (off : Nat) : tncG P (.one (.pel e off)) h = some (.one (.pel e off), none) := _root_.id rfl
def tpG (c a b : AV) : Option (AV × Option Nat) := match c with | .one (.c (.bool t)) => some (if t = true then a else b, none) | _ => none
theorem t_pick (c a b : Operand) : takeA P (.pick c a b) f h = tpG (ev f c) (ev f a) (ev f b) := _root_.id rfl
theorem tp_t (a b : AV) : tpG (.one (.c (.bool true))) a b = some (a, none) := by simp [tpG]
theorem tp_f (a b : AV) : tpG (.one (.c (.bool false))) a b = some (b, none) := by simp [tpG]
def vlG (v : Option AV) (l : Option Nat) : Option (AV × Option Nat) := v.map fun v => (v, l)
theorem vl_some (v : AV) (l : Option Nat) : vlG (some v) l = some (v, l) := _root_.id rfl
def tlG (P : Program) (t : TypeId) (a : AV) (h : AH) : Option (AV × Option Nat) := match a with | .one (.pt l g i off) => vlG (ldR P t (objR h l g) i off) (some l) | .one (.pel e off) => vlG (partA P t e off) none | _ => none
theorem t_load (t : TypeId) (a : Operand) : takeA P (.load t a) f h = tlG P t (ev f a) h := by
  simp only [takeA, tlG, vlG]
  split <;> simp_all only
  rename_i l g i off _
  cases objR h l g with
  | none => rfl
  | some q =>
    simp only [ldR, ldE, Option.bind_some]
    cases q.2.2[i]? <;> rfl
theorem tl_pt (t : TypeId) (l g i off : Nat) : tlG P t (.one (.pt l g i off)) h = vlG (ldR P t (objR h l g) i off) (some l) := _root_.id rfl
theorem tl_pel (t : TypeId) (e : List CV) (off : Nat) : tlG P t (.one (.pel e off)) h = vlG (partA P t e off) none := _root_.id rfl
def tfB (b : Bool) (v : Option (AV × Option Nat)) : Option (AV × Option Nat) := if b = true then v else none
theorem tfB_t (v : Option (AV × Option Nat)) : tfB true v = v := by simp [tfB]
def tfG (q : Option (Nat × TypeId)) (a : AV) (h : AH) : Option (AV × Option Nat) := match a with
    | .one (.pt l g j off) => tfB (objR h l g).isSome (q.map fun q => (.one (.pt l g j (off + q.1)), none))
    | .one (.pel e off) => q.map fun q => (.one (.pel e (off + q.1)), none)
    | _ => none
theorem t_fieldAddr (st : TypeId) (x : Operand) (i : Nat) : takeA P (.fieldAddr st x i) f h = tfG (offA P st i) (ev f x) h := _root_.id rfl
theorem tf_pt (o : Nat) (t : TypeId) (l g j off : Nat) : tfG (some (o, t)) (.one (.pt l g j off)) h = tfB (objR h l g).isSome (some (.one (.pt l g j (off + o)), none)) := _root_.id rfl
theorem tf_pel (o : Nat) (t : TypeId) (e : List CV) (off : Nat) : tfG (some (o, t)) (.one (.pel e off)) h = some (.one (.pel e (off + o)), none) := _root_.id rfl
def tiO (n : Nat) (q : Option (TypeId × Nat × List (List CV))) (l g off len : Nat) (i : Int) : Option (AV × Option Nat) := q.bind fun q => if q.2.1 = n ∧ 0 ≤ i ∧ i < len then some (.one (.pt l g (off + i.toNat) 0), none) else none
def tiE (n : Nat) (e : Option (List CV)) (i : Int) : Option (AV × Option Nat) := e.bind fun e => if 0 ≤ i ∧ e.length = n then some (.one (.pel e 0), none) else none
def tiG (n : Option Nat) (x ix : AV) (h : AH) : Option (AV × Option Nat) := n.bind fun n => (match x, ix with
    | .one (.sl l g off len), .one (.c (.int _ i)) => tiO n (objR h l g) l g off len i
    | .one (.im es), .one (.c (.int _ i)) => tiE n es[i.toNat]? i
    | _, _ => none)
theorem t_indexAddr (t : TypeId) (x ix : Operand) : takeA P (.indexAddr t x ix) f h = tiG ((elemA P t).bind (sizeA P)) (ev f x) (ev f ix) h := by
  simp only [takeA, tiG]
  cases elemA P t <;> simp only [Option.bind_none, Option.bind_some]
  rfl
theorem ti_sl (n l g off len : Nat) (ki : IntKind) (i : Int) : tiG (some n) (.one (.sl l g off len)) (.one (.c (.int ki i))) h = tiO n (objR h l g) l g off len i := _root_.id rfl
theorem tiO_some (n l g off len : Nat) (t : TypeId) (es : List (List CV)) (i : Int) (h1 : 0 ≤ i) (h2 : i < len) : tiO n (some (t, n, es)) l g off len i = some (.one (.pt l g (off + i.toNat) 0), none) := by simp [tiO, h1, h2]
theorem ti_im (n : Nat) (es : List (List CV)) (ki : IntKind) (i : Int) : tiG (some n) (.one (.im es)) (.one (.c (.int ki i))) h = tiE n es[i.toNat]? i := _root_.id rfl
theorem tiE_some (n : Nat) (e : List CV) (i : Int) (h1 : 0 ≤ i) (h2 : e.length = n) : tiE n (some e) i = some (.one (.pel e 0), none) := by simp [tiE, h1, h2]
def tbG (P : Program) (op : BinOp) (t : TypeId) (x y : AV) : Option (AV × Option Nat) := match x, y with
    | .one (.c a), .one (.c b) => (binA P op t a b).map fun v => (.one (.c v), none)
    | _, _ => none
theorem t_bin (op : BinOp) (t : TypeId) (x y : Operand) (t2 : TypeId) : takeA P (.binOp op t x y t2) f h = tbG P op t (ev f x) (ev f y) := _root_.id rfl
theorem tb_add (t : TypeId) (a b : Int) : tbG P .add t (.one (.c (.int .i64 a))) (.one (.c (.int .i64 b))) = some (.one (.c (.int .i64 (wrap64 (a + b)))), none) := by simp [tbG, binA, intA, IntKind.wrap_i64, wrap64]
theorem tb_sub (t : TypeId) (a b : Int) : tbG P .sub t (.one (.c (.int .i64 a))) (.one (.c (.int .i64 b))) = some (.one (.c (.int .i64 (wrap64 (a - b)))), none) := by simp [tbG, binA, intA, IntKind.wrap_i64, wrap64]
theorem tb_mul (t : TypeId) (a b : Int) : tbG P .mul t (.one (.c (.int .i64 a))) (.one (.c (.int .i64 b))) = some (.one (.c (.int .i64 (wrap64 (a * b)))), none) := by simp [tbG, binA, intA, IntKind.wrap_i64, wrap64]
theorem tb_eql (t : TypeId) (ki : IntKind) (a b : Int) : tbG P .eql t (.one (.c (.int ki a))) (.one (.c (.int ki b))) = some (.one (.c (.bool (a == b))), none) := by simp [tbG, binA, intA]
theorem tb_neq (t : TypeId) (ki : IntKind) (a b : Int) : tbG P .neq t (.one (.c (.int ki a))) (.one (.c (.int ki b))) = some (.one (.c (.bool (!(a == b)))), none) := by simp [tbG, binA, intA]; rfl
theorem tb_lss (t : TypeId) (ki : IntKind) (a b : Int) : tbG P .lss t (.one (.c (.int ki a))) (.one (.c (.int ki b))) = some (.one (.c (.bool (decide (a < b)))), none) := by simp [tbG, binA, intA]
theorem tb_leq (t : TypeId) (ki : IntKind) (a b : Int) : tbG P .leq t (.one (.c (.int ki a))) (.one (.c (.int ki b))) = some (.one (.c (.bool (decide (a ≤ b)))), none) := by simp [tbG, binA, intA]
theorem tb_gtr (t : TypeId) (ki : IntKind) (a b : Int) : tbG P .gtr t (.one (.c (.int ki a))) (.one (.c (.int ki b))) = some (.one (.c (.bool (decide (b < a)))), none) := by simp [tbG, binA, intA]
theorem tb_geq (t : TypeId) (ki : IntKind) (a b : Int) : tbG P .geq t (.one (.c (.int ki a))) (.one (.c (.int ki b))) = some (.one (.c (.bool (decide (b ≤ a)))), none) := by simp [tbG, binA, intA]
def tuG (op : UnOp) (x : AV) : Option (AV × Option Nat) := match x with | .one (.c a) => (unA op a).map fun v => (.one (.c v), none) | _ => none
theorem t_un (op : UnOp) (t : TypeId) (x : Operand) : takeA P (.unOp op t x) f h = tuG op (ev f x) := _root_.id rfl
theorem tu_not (b : Bool) : tuG .not (.one (.c (.bool b))) = some (.one (.c (.bool (!b))), none) := _root_.id rfl
def teG (x : AV) (i : Nat) : Option (AV × Option Nat) := match x with | .tup xs => vlG xs[i]? none | _ => none
theorem t_extract (x : Operand) (i : Nat) : takeA P (.extract x i) f h = teG (ev f x) i := _root_.id rfl
theorem t_len (x : Operand) (t : TypeId) : takeA P (.call { callee := .builtin .len, args := #[x], argTypes := #[t] }) f h = vlG (lenA P h t (ev f x)) none := _root_.id rfl
theorem t_min (x y : Operand) (ts : Array TypeId) : takeA P (.call { callee := .builtin .min, args := #[x, y], argTypes := ts }) f h = mmT false (ev f x) (ev f y) := _root_.id rfl
theorem t_max (x y : Operand) (ts : Array TypeId) : takeA P (.call { callee := .builtin .max, args := #[x, y], argTypes := ts }) f h = mmT true (ev f x) (ev f y) := _root_.id rfl
theorem mt_f (ki k' : IntKind) (a c : Int) : mmT false (.one (.c (.int ki a))) (.one (.c (.int k' c))) = some (.one (.c (.int ki (if c < a then c else a))), none) := by simp [mmT]
theorem mt_t (ki k' : IntKind) (a c : Int) : mmT true (.one (.c (.int ki a))) (.one (.c (.int k' c))) = some (.one (.c (.int ki (if a < c then c else a))), none) := by simp [mmT]
theorem tn_str (t : TypeId) (s : ByteArray) (ht : strA P t = true) : lenA P h t (.one (.c (.string s))) = some (.one (.c (.int .i64 s.size))) := by simp [lenA, ht]
theorem tn_nl (t : TypeId) (ht : (elemA P t).isSome = true) : lenA P h t (.one .nl) = some (.one (.c (.int .i64 0))) := by simp [lenA, ht]
theorem tn_emp (t : TypeId) (ht : (elemA P t).isSome = true) : lenA P h t (.one .emp) = some (.one (.c (.int .i64 0))) := by simp [lenA, ht]
theorem tn_im (t : TypeId) (es : List (List CV)) (ht : (elemA P t).isSome = true) : lenA P h t (.one (.im es)) = some (.one (.c (.int .i64 es.length))) := by simp [lenA, ht]
theorem tn_sl (t : TypeId) (l g off len : Nat) (ht : (elemA P t).isSome = true) (ho : (objR h l g).isSome = true) : lenA P h t (.one (.sl l g off len)) = some (.one (.c (.int .i64 len))) := by simp [lenA, ht, ho]
def tcI (ki : Option IntKind) (b : Bool) (n : Int) : Option (AV × Option Nat) := match ki with | some k' => if b = true then some (.one (.c (.int k' (k'.wrap n))), none) else none | none => none
def tcG (ki : Option IntKind) (b : Bool) (x : AV) : Option (AV × Option Nat) := match ki, x with | some k', .one (.c (.int _ n)) => if b = true then some (.one (.c (.int k' (k'.wrap n))), none) else none | _, _ => none
theorem t_convert (src dst : TypeId) (x : Operand) : takeA P (.convert src dst x) f h = tcG (kindA P dst) (P.underlying src).isSome (ev f x) := _root_.id rfl
theorem tcg_int (k' ki : IntKind) (n : Int) : tcG (some k') true (.one (.c (.int ki n))) = some (.one (.c (.int k' (k'.wrap n))), none) := _root_.id rfl
theorem tb_addk (t : TypeId) (ki : IntKind) (a b : Int) : tbG P .add t (.one (.c (.int ki a))) (.one (.c (.int ki b))) = some (.one (.c (.int ki (ki.wrap (a + b)))), none) := by simp [tbG, binA, intA]
theorem tb_seql (t : TypeId) (a b : ByteArray) : tbG P .eql t (.one (.c (.string a))) (.one (.c (.string b))) = some (.one (.c (.bool (decide (a = b)))), none) := by simp only [tbG, binA, strOpA, bl_eq, Option.map_some]
theorem tb_sneq (t : TypeId) (a b : ByteArray) : tbG P .neq t (.one (.c (.string a))) (.one (.c (.string b))) = some (.one (.c (.bool (!decide (a = b)))), none) := by simp only [tbG, binA, strOpA, bl_eq, Option.map_some]
theorem tb_sadd (t : TypeId) (a b : ByteArray) (hs : a.size + b.size ≤ 9223372036854775807) : tbG P .add t (.one (.c (.string a))) (.one (.c (.string b))) = some (.one (.c (.string (a ++ b))), none) := by
  have : ¬ (9223372036854775807 < a.size + b.size) := by omega
  simp [tbG, binA, strOpA, this]
theorem tb_beql (t : TypeId) (a b : Bool) (hb : boolA P t = true) : tbG P .eql t (.one (.c (.bool a))) (.one (.c (.bool b))) = some (.one (.c (.bool (a == b))), none) := by simp [tbG, binA, hb]
theorem tb_bneq (t : TypeId) (a b : Bool) (hb : boolA P t = true) : tbG P .neq t (.one (.c (.bool a))) (.one (.c (.bool b))) = some (.one (.c (.bool (!(a == b)))), none) := by simp [tbG, binA, hb]
theorem tb_and (t : TypeId) (ki : IntKind) (a b : Int) : tbG P .and t (.one (.c (.int ki a))) (.one (.c (.int ki b))) = some (.one (.c (.int ki (ki.wrap (BitVec.ofInt ki.bits a &&& BitVec.ofInt ki.bits b).toNat))), none) := by simp [tbG, binA, intA]
theorem tb_or (t : TypeId) (ki : IntKind) (a b : Int) : tbG P .or t (.one (.c (.int ki a))) (.one (.c (.int ki b))) = some (.one (.c (.int ki (ki.wrap (BitVec.ofInt ki.bits a ||| BitVec.ofInt ki.bits b).toNat))), none) := by simp [tbG, binA, intA]
theorem tb_shl (t : TypeId) (ki kj : IntKind) (a b : Int) (hb : 0 ≤ b) : tbG P .shl t (.one (.c (.int ki a))) (.one (.c (.int kj b))) = some (.one (.c (.int ki (ki.wrap (a * 2 ^ min b.toNat ki.bits)))), none) := by simp [tbG, binA, if_neg (Int.not_lt.2 hb)]
theorem tb_shr (t : TypeId) (ki kj : IntKind) (a b : Int) (hb : 0 ≤ b) : tbG P .shr t (.one (.c (.int ki a))) (.one (.c (.int kj b))) = some (.one (.c (.int ki (a.fdiv (2 ^ min b.toNat ki.bits)))), none) := by simp [tbG, binA, if_neg (Int.not_lt.2 hb)]
theorem tb_rem (t : TypeId) (ki : IntKind) (a b : Int) (hb : b ≠ 0) : tbG P .rem t (.one (.c (.int ki a))) (.one (.c (.int ki b))) = some (.one (.c (.int ki (a.tmod b))), none) := by simp [tbG, binA, intA, hb]
theorem tb_quo (t : TypeId) (a b : Int) (hb : b ≠ 0) : tbG P .quo t (.one (.c (.int .i64 a))) (.one (.c (.int .i64 b))) = some (.one (.c (.int .i64 (wrap64 (a.tdiv b)))), none) := by simp [tbG, binA, intA, hb, IntKind.wrap_i64, wrap64]
theorem te_tup (xs : List AV) (i : Nat) : teG (.tup xs) i = vlG xs[i]? none := _root_.id rfl
variable {P f h ds ops s Q pr r}
theorem tw_split {b t : Bool} {v : Option (AV × Option Nat)} {dst : Option Nat} (h1 : b = true → twG P (.one (.c (.bool true))) t v ds ops dst r s Q f h pr) (h2 : b = false → twG P (.one (.c (.bool false))) t v ds ops dst r s Q f h pr) : twG P (.one (.c (.bool b))) t v ds ops dst r s Q f h pr := by cases b; exact h2 rfl; exact h1 rfl
end
section
variable {H : Type} {enc : TypeId × Value → H} {P : Program} {w : World} {base fuel : Nat} {spare : Nat → Bool} {held : Bool} {t : TypeId} {v : Value} {x : DataW H × List MemPlace}
theorem one_int {k : IntKind} (ht : P.underlying t = some (.int k)) (h : DataW.trod enc P w base spare held fuel t [v] = some x) : ∃ n, v = .int k n ∧ (Lit.int k n).wf = true := by
  obtain ⟨n, hc, _, hw⟩ := DataW.trod_int ht h
  simp at hc
  exact ⟨n, hc, hw⟩
theorem one_str (ht : P.underlying t = some .string) (h : DataW.trod enc P w base spare held fuel t [v] = some x) : ∃ s, v = .string s ∧ s.size ≤ maxLen := by
  obtain ⟨s, hc, _, hw⟩ := DataW.trod_string ht h
  simp at hc
  exact ⟨s, hc, hw⟩
end
end Go.BL
