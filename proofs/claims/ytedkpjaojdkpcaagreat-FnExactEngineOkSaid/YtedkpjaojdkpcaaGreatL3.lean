/- Further operations: structs and rows built, made, cut, appended to, copied, strings and bytes, calls. Conditions: none. -/
import Derived.Test.YtedkpjaojdkpcaaGreatL2
import Derived.Laws.OwnMore
import Derived.Laws.Strings2
namespace Go.BL
open Go.RowKit
set_option linter.unusedVariables false
set_option linter.unusedSimpArgs false

def hasBody (P : Program) (g : Nat) : Bool := match P.funcs[g]? with | some fn => fn.body.isSome && fn.name != "runtime.NumGoroutine" | none => false
/-- A call with its number checked. -/
def ACalls (P : Program) (g : Nat) (args : List AV) (h : AH) (K : AV → AH → Prop) : Prop := hasBody P g = true ∧ ACall P g args h K
theorem ACalls.mono {P : Program} {g : Nat} {args : List AV} {h : AH} {K K' : AV → AH → Prop} (H : ACalls P g args h K) (hk : ∀ r h', K r h' → K' r h') : ACalls P g args h K' := ⟨H.1, H.2.mono hk⟩

def fillA (place : Nat → Option (Nat × Nat)) (cs : List CV) : List (Nat × List CV) → Option (List CV)
  | [] => some cs
  | (i, v) :: rest => match place i with
    | none => none
    | some (off, size) => if v.length = size ∧ off + size ≤ cs.length then fillA place (cset cs off v) rest else none
def fillE (k : Nat) (es : List (List CV)) : List (Nat × List CV) → Option (List (List CV))
  | [] => some es
  | (i, v) :: rest => if v.length = k ∧ i < es.length then fillE k (es.set i v) rest else none
def partsA (f : AF) : List (Nat × Operand) → Option (List (Nat × List CV))
  | [] => some []
  | (i, x) :: r => match cellsA (ev f x), partsA f r with | some cs, some q => some ((i, cs) :: q) | _, _ => none
def bytesE (s : ByteArray) : List (List CV) := s.data.toList.map fun b => [.c (.int .u8 b.toNat)]
def byteOf : List CV → Option Int
  | [.c (.int .u8 x)] => some x
  | _ => none
def bytesOf : List (List CV) → Option (List Int)
  | [] => some []
  | e :: r => match byteOf e, bytesOf r with | some x, some xs => some (x :: xs) | _, _ => none
def strOf (xs : List Int) : ByteArray := ⟨(xs.map fun n => UInt8.ofNat n.toNat).toArray⟩
/-- Elements of so many cells each. -/
def ksB (k : Nat) (es : List (List CV)) : Bool := es.all fun e => e.length == k
/-- What a slice (or a string) holds. -/
def rowA (h : AH) (k : Nat) : AV → Option (List (List CV))
  | .one .nl => some []
  | .one .emp => some []
  | .one (.im es) => if ksB k es = true then some es else none
  | .one (.sl l g off len) => (objR h l g).bind fun q => if q.2.1 = k ∧ off + len ≤ q.2.2.length then some ((q.2.2.drop off).take len) else none
  | .one (.c (.string s)) => if k = 1 then some (bytesE s) else none
  | _ => none
/-- What is appended: a slice, a string, or so many zeros. -/
def srcA (P : Program) (t2 : TypeId) (h : AH) (k by_ : Nat) (z : List CV) (x : AV) : Option (List (List CV)) :=
  if ((elemA P t2).isSome || strA P t2) = true then rowA h k x
  else if (kindA P t2).isSome = true then (match x with
    | .one (.c (.int _ n)) => if 0 ≤ n ∧ n ≤ 9223372036854775807 ∧ n.toNat * by_ ≤ 281474976710656 then some (List.replicate n.toNat z) else none
    | _ => none)
  else none
def boundA (len : Nat) : Option AV → Option Nat
  | none => some len
  | some (.one (.c (.int _ i))) => if 0 ≤ i then some i.toNat else none
  | _ => none
def appA (e k by_ : Nat) (h : AH) (s : AV) (news : List (List CV)) (K : AV → AH → Prop) : Prop :=
  match s with
  | .one .nl => news.length * by_ ≤ 140737488355328 ∧ K (.one (.sl h.length 0 0 news.length)) (h ++ [.own 0 e k none news])
  | .one .emp => news.length * by_ ≤ 140737488355328 ∧ K (.one (.sl h.length 0 0 news.length)) (h ++ [.own 0 e k none news])
  | .one (.im es) => news = [] ∧ K s h
  | .one (.sl l g off len) => On (objA h l g) fun q => q.1 = e ∧ q.2.1 = k ∧ ((off + len + news.length ≤ q.2.2.2.length ∧ K (.one (.sl l g off (len + news.length))) (h.set l (.own g e k q.2.2.1 (cset q.2.2.2 (off + len) news)))) ∨
      (off = 0 ∧ len ≤ q.2.2.2.length ∧ (len + news.length) * by_ ≤ 140737488355328 ∧ K (.one (.sl l (g + 1) 0 (len + news.length))) (h.set l (.own (g + 1) e k none (q.2.2.2.take len ++ news)))) ∨
      (off = 0 ∧ len ≤ q.2.2.2.length ∧ (len + news.length) * by_ ≤ 140737488355328 ∧ (∃ c, q.2.2.1 = some c ∧ c < len + news.length) ∧ K (.one (.sl h.length 0 0 (len + news.length))) (h ++ [.own 0 e k none (q.2.2.2.take len ++ news)])))
  | _ => False
def copA (h : AH) (s : AV) (news : List (List CV)) (k : Nat) (K : AV → AH → Prop) : Prop :=
  match s with
  | .one .nl => K (.one (.c (.int .i64 0))) h
  | .one .emp => K (.one (.c (.int .i64 0))) h
  | .one (.sl l g off len) => On (objA h l g) fun q => q.2.1 = k ∧ off + len ≤ q.2.2.2.length ∧ K (.one (.c (.int .i64 ((min news.length len : Nat) : Int)))) (h.set l (.own g q.1 k q.2.2.1 (cset q.2.2.2 off (news.take (min news.length len)))))
  | _ => False
def clrA (h : AH) (s : AV) (z : List CV) (K : AV → AH → Prop) : Prop :=
  match s with
  | .one .nl => K (.tup []) h
  | .one .emp => K (.tup []) h
  | .one (.im []) => K (.tup []) h
  | .one (.sl l g off len) => On (objA h l g) fun q => q.2.1 = z.length ∧ off + len ≤ q.2.2.2.length ∧ K (.tup []) (h.set l (.own g q.1 q.2.1 q.2.2.1 (cset q.2.2.2 off (List.replicate len z))))
  | _ => False
/-- Elements, and what lies behind them. -/
def spareE (k c : Nat) (es : List (List CV)) : List (List CV) := es ++ List.replicate (c - es.length) (List.replicate k .junk)
def capG0 (h : AH) (s : AV) (K : AV → AH → Prop) : Prop :=
  match s with
  | .one .nl => K (.one (.c (.int .i64 0))) h
  | .one .emp => K (.one (.c (.int .i64 0))) h
  | .one (.im es) => ∀ c : Nat, es.length ≤ c → K (.one (.c (.int .i64 c))) h
  | .one (.sl l g off len) => On (objA h l g) fun q => ∀ c : Nat, q.2.2.2.length ≤ c → (∀ c', q.2.2.1 = some c' → c = c') → (K (.one (.c (.int .i64 ((c - off : Nat) : Int)))) (h.set l (.own g q.1 q.2.1 (some c) q.2.2.2)) ∨ K (.one (.c (.int .i64 ((c - off : Nat) : Int)))) (h.set l (.own g q.1 q.2.1 (some c) (spareE q.2.1 c q.2.2.2))))
  | _ => False

/-- A value by content, as it stands now. -/
def clz : CV → CV
  | .pt .. => .junk
  | .sl .. => .junk
  | .clo g caps => if caps.isEmpty = true then .clo g [] else .junk
  | x => x
def imV (h : AH) : CV → CV
  | .nl => .im []
  | .emp => .im []
  | .sl l g off len => match objR h l g with
    | some q => if off + len ≤ q.2.2.length then .im (((q.2.2.drop off).take len).map (·.map clz)) else .junk
    | none => .junk
  | x => clz x
def imA (h : AH) : AV → AV
  | .one (.c v) => .one (.c v)
  | .one x => .one (imV h x)
  | .agg xs => .agg (xs.map (imV h))
  | _ => .any
/-- The objects that a value leads to. -/
def locV : CV → List Nat
  | .sl l _ _ _ => [l]
  | _ => []
def locA : AV → List Nat
  | .one x => locV x
  | .agg xs => xs.flatMap locV
  | _ => []
def plainC : CV → Bool
  | .c _ => true
  | _ => false
def plainA1 : AV → Bool
  | .one x => plainC x
  | .agg xs => xs.all plainC
  | _ => false
def plainA : AV → Bool
  | .tup xs => xs.all plainA1
  | x => plainA1 x
/-- Objects come to stand for good. -/
def frO : AO → AO
  | .own g t k cap es => .ro g t k (es.map (·.map clz))
  | o => o
def frH : List Nat → AH → AH
  | [], h => h
  | l :: r, h => frH r (match h[l]? with | some o => h.set l (frO o) | none => h)
/-- A call: by content (what is handed on is frozen, or lent where the answer is plain), or on all objects. -/

def freeC : CV → Bool
  | .im _ => false
  | .pel .. => false
  | _ => true
def freeA1 : AV → Bool
  | .one x => freeC x
  | .agg xs => xs.all freeC
  | _ => false
def freeA : AV → Bool
  | .tup xs => xs.all freeA1
  | x => freeA1 x
def freeE (es : List (List CV)) : Bool := es.all fun e => e.all freeC
def freeO : AO → Bool
  | .own _ _ _ _ es => freeE es
  | .dead => true
  | .ro .. => false
def calK (args : List AV) (h : AH) (K : AV → AH → Prop) (r : AV) (h' : AH) : Prop := if freeA r = true ∧ h'.all freeO = true then K (shA h.length r) (h ++ h'.map (shO h.length)) else K (shA h.length r) (frH (args.flatMap locA) h ++ h'.map (shO h.length))
/-- A function of the model's own (without a body) that changes nothing. -/
def ExtA (P : Program) (g : Nat) (args : List AV) (h : AH) (K : AV → AH → Prop) : Prop :=
  ∀ (G : Cx) (φ : Phi) (M : Im) (w : World) (vs : List Value), Rep G φ M h w → VAs φ M args vs → ∃ v r, (callFunc g vs.toArray).run P w = .ok (.value v) w ∧ VA φ M r v ∧ K r h
/-- A contract that leaves all objects but some as they were. -/
def FCalls (P : Program) (g : Nat) (args : List AV) (h : AH) (ls : List Nat) (K : AV → AH → Prop) : Prop := hasBody P g = true ∧
  ∀ φ M w vs, Rep ⟨w, owned φ h, M⟩ φ M h w → VAs φ M args vs →
    Calls P g vs.toArray w fun e w' => ∃ v r h' φ' M', e = .returned v ∧ VA φ' M' r v ∧ K r h' ∧ Rep ⟨w, owned φ h, M⟩ φ' M' h' w' ∧ Le φ φ' ∧ Kept (fun l => decide (l ∈ ls)) φ φ' h h' w w'
theorem FCalls.a {P : Program} {g : Nat} {args : List AV} {h : AH} {ls : List Nat} {K : AV → AH → Prop} (H : FCalls P g args h ls K) : ACalls P g args h K :=
  ⟨H.1, fun φ M w vs hr ha => (H.2 φ M w vs hr ha).mono fun e w' ⟨v, r, h', φ', M', h1, h2, h3, h4, h5, _⟩ => ⟨v, r, h', φ', M', h1, h2, h3, h4, h5⟩⟩
def callA (P : Program) (g : Nat) (args : List AV) (h : AH) (K : AV → AH → Prop) : Prop :=
  ACalls P g (args.map (imA h)) [] (calK args h K) ∨ (args.all clA = false ∧ ACalls P g args h K) ∨ ExtA P g args h K ∨ (args.all clA = true ∧ ACalls P g args [] (calK args h K)) ∨ ∃ ls, args.all clA = false ∧ FCalls P g args h ls K
/-- The same with two ways on: where every object stays as it was, and where not. -/
def calK2 (args : List AV) (h : AH) (K Kl : AV → AH → Prop) (r : AV) (h' : AH) : Prop := if freeA r = true ∧ h'.all freeO = true then Kl (shA h.length r) (h ++ h'.map (shO h.length)) else K (shA h.length r) (frH (args.flatMap locA) h ++ h'.map (shO h.length))
def callA2 (P : Program) (g : Nat) (args : List AV) (h : AH) (K Kl : AV → AH → Prop) (Kf : List Nat → AV → AH → Prop) : Prop :=
  ACalls P g (args.map (imA h)) [] (calK2 args h K Kl) ∨ (args.all clA = false ∧ ACalls P g args h K) ∨ ExtA P g args h Kl ∨ (args.all clA = true ∧ ACalls P g args [] (calK2 args h K Kl)) ∨ ∃ ls, args.all clA = false ∧ FCalls P g args h ls (Kf ls)
theorem callA2_same (P : Program) (g : Nat) (args : List AV) (h : AH) (K : AV → AH → Prop) : callA2 P g args h K K (fun _ => K) = callA P g args h K := rfl
def aop (P : Program) (op : Op) (f : AF) (h : AH) (K : AV → AH → Prop) : Prop :=
  match op with
  | .build t parts => On (placesA P t) fun pl => On (zeroA P t) fun z => On (partsA f parts.toList) fun ps => On (fillA (pl[·]?) z ps) fun cs => K (.agg cs) h
  | .buildSlice t len parts => On (elemA P t) fun e => On (sizeA P e) fun k => On (zeroA P e) fun z => On (partsA f parts.toList) fun ps => z.length = k ∧ 0 < k ∧ len * k ≤ 16777216 ∧
      On (fillE k (List.replicate len z) ps) fun es => K (.one (.sl h.length 0 0 len)) (h ++ [.own 0 e k (some len) es])
  | .makeSlice t l c => On (elemA P t) fun e => On (sizeA P e) fun k => On (zeroA P e) fun z => On (bytesA P e) fun by_ => On (boundA 0 (some (ev f l))) fun n => On (boundA 0 (some (ev f c))) fun n2 => n ≤ n2 ∧ z.length = k ∧ 0 < k ∧ by_ * n2 ≤ 281474976710656 ∧ n2 ≤ maxLen ∧
      K (.one (.sl h.length 0 0 n)) (h ++ [.own 0 e k (some n2) (List.replicate n z)])
  | .slice t x lo hi mx => (match ev f x with
    | .one (.c (.string s)) => strA P t = true ∧ mx.isNone = true ∧ On (boundA 0 (lo.map (ev f))) fun i => On (boundA s.size (hi.map (ev f))) fun j => i ≤ j ∧ j ≤ s.size ∧ K (.one (.c (.string (s.extract i j)))) h
    | .one .nl => On (elemA P t) fun e => (sizeA P e).isSome = true ∧ On (boundA 0 (lo.map (ev f))) fun i => On (boundA 0 (hi.map (ev f))) fun j => On (boundA 0 (mx.map (ev f))) fun m => i = 0 ∧ j = 0 ∧ m = 0 ∧ (mx.isSome = true → hi.isSome = true) ∧ K (.one .nl) h
    | .one .emp => On (elemA P t) fun e => (sizeA P e).isSome = true ∧ On (boundA 0 (lo.map (ev f))) fun i => On (boundA 0 (hi.map (ev f))) fun j => On (boundA 0 (mx.map (ev f))) fun m => i = 0 ∧ j = 0 ∧ m = 0 ∧ (mx.isSome = true → hi.isSome = true) ∧ K (.one .emp) h
    | .one (.im es) => On (elemA P t) fun e => On (sizeA P e) fun k => ksB k es = true ∧ On (boundA 0 (lo.map (ev f))) fun i => On (boundA es.length (hi.map (ev f))) fun j => i ≤ j ∧ j ≤ es.length ∧ (match mx with
      | none => K (.one (.im ((es.drop i).take (j - i)))) h
      | some m0 => On (boundA 0 (some (ev f m0))) fun m => j ≤ m ∧ m ≤ es.length ∧ hi.isSome = true ∧ m = i ∧ K (.one .emp) h)
    | .one (.sl l g off len) => On (elemA P t) fun e => On (objR h l g) fun q => sizeA P e = some q.2.1 ∧ 0 < q.2.1 ∧ On (boundA 0 (lo.map (ev f))) fun i => On (boundA len (hi.map (ev f))) fun j => i ≤ j ∧ off + j ≤ q.2.2.length ∧ (match mx with
      | none => if off + i < q.2.2.length ∨ i = 0 then K (.one (.sl l g (off + i) (j - i))) h else K (.one (.im [])) h
      | some m0 => On (boundA 0 (some (ev f m0))) fun m => j ≤ m ∧ off + m ≤ q.2.2.length ∧ hi.isSome = true ∧ m = i ∧ K (.one .emp) h)
    | _ => False)
  | .makeFunc fn first captured => (match fn with
    | .func g => first.size = 0 ∧ On (captured.toList.mapM fun x => match ev f x with | .one (.pt l 0 0 0) => if (objA h l 0).isSome = true then some l else none | _ => none) fun ls => K (.one (.clo g ls)) h
    | _ => False)
  | .convert src dst x => (match ev f x with
    | .one (.c (.string s)) => if strA P dst = true then (P.underlying src).isSome = true ∧ K (.one (.c (.string s))) h else strA P src = true ∧ On (elemA P dst) fun e => kindA P e = some .u8 ∧ s.size ≤ maxLen ∧
        (K (.one (.sl h.length 0 0 s.size)) (h ++ [.own 0 e 1 none (bytesE s)]))
    | .one (.c (.int k n)) => aop1 P (.convert src dst x) f h K
    | v => strA P dst = true ∧ On (elemA P src) fun e => kindA P e = some .u8 ∧ On (rowA h 1 v) fun r => On (bytesOf r) fun xs => K (.one (.c (.string (strOf xs)))) h)
  | .call c => (match c.callee with
    | .value g => (match ev f g with
      | .one (.clo g caps) => callA P g (c.args.toList.map (ev f) ++ caps.map fun l => .one (.pt l 0 0 0)) h K
      | _ => False)
    | .builtin .len => (match c.args.toList, c.argTypes.toList with
      | [x], [t] => (match ev f x with
        | .one (.c (.string s)) => strA P t = true ∧ K (.one (.c (.int .i64 s.size))) h
        | .one .nl => (elemA P t).isSome = true ∧ K (.one (.c (.int .i64 0))) h
        | .one .emp => (elemA P t).isSome = true ∧ K (.one (.c (.int .i64 0))) h
        | .one (.im es) => (elemA P t).isSome = true ∧ K (.one (.c (.int .i64 es.length))) h
        | .one (.sl l g _ len) => (elemA P t).isSome = true ∧ (objR h l g).isSome = true ∧ K (.one (.c (.int .i64 len))) h
        | _ => False)
      | _, _ => False)
    | .builtin .cap => (match c.args.toList, c.argTypes.toList with
      | [x], [t] => (elemA P t).isSome = true ∧ capG0 h (ev f x) K
      | _, _ => False)
    | .builtin .append => (match c.args.toList, c.argTypes.toList with
      | [s, x], [t, t2] => On (elemA P t) fun e => On (sizeA P e) fun k => On (bytesA P e) fun by_ => On (zeroA P e) fun z => z.length = k ∧ 0 < k ∧ 0 < by_ ∧ On (srcA P t2 h k by_ z (ev f x)) fun r => appA e k by_ h (ev f s) r K
      | _, _ => False)
    | .builtin .copy => (match c.args.toList, c.argTypes.toList with
      | [s, x], [t, t2] => On (elemA P t) fun e => On (sizeA P e) fun k => On (rowA h k (ev f x)) fun r => copA h (ev f s) r k K
      | _, _ => False)
    | .builtin .clear => (match c.args.toList, c.argTypes.toList with
      | [s], [t] => On (elemA P t) fun e => On (zeroA P e) fun z => 0 < z.length ∧ clrA h (ev f s) z K
      | _, _ => False)
    | .builtin .min => (match c.args.toList with
      | [x, y] => (match ev f x, ev f y with
        | .one (.c (.int k a)), .one (.c (.int k' b)) => K (.one (.c (.int k (if b < a then b else a)))) h
        | _, _ => False)
      | _ => False)
    | .builtin .max => (match c.args.toList with
      | [x, y] => (match ev f x, ev f y with
        | .one (.c (.int k a)), .one (.c (.int k' b)) => K (.one (.c (.int k (if a < b then b else a)))) h
        | _, _ => False)
      | _ => False)
    | _ => False)
  | op => aop1 P op f h K
/-- What an operation may write to. -/
def aop2 (P : Program) (op : Op) (f : AF) (h : AH) (K Kl : AV → AH → Prop) (Kf : List Nat → AV → AH → Prop) : Prop :=
  match op with
  | .call c => (match c.callee with
    | .value g => (match ev f g with
      | .one (.clo g caps) => callA2 P g (c.args.toList.map (ev f) ++ caps.map fun l => .one (.pt l 0 0 0)) h K Kl Kf
      | _ => False)
    | _ => aop P op f h K)
  | _ => aop P op f h K
theorem aop2_same (P : Program) (op : Op) (f : AF) (h : AH) (K : AV → AH → Prop) : aop2 P op f h K K (fun _ => K) = aop P op f h K := by
  cases op <;> try rfl
  rename_i c
  obtain ⟨callee, args, tys⟩ := c
  cases callee <;> rfl
def touchA (op : Op) (f : AF) (l : Nat) : Bool :=
  match op with
  | .store _ a _ => toVal (ev f a) l
  | .call c => (match c.callee with
    | .value g => (match ev f g with
      | .one (.clo _ caps) => !((c.args.toList.map (ev f) ++ caps.map fun l => AV.one (.pt l 0 0 0)).all clA)
      | _ => true)
    | .builtin .len => false
    | .builtin .min => false
    | .builtin .max => false
    | .builtin .cap => false
    | .builtin .append => (match c.args.toList with | s :: _ => toVal (ev f s) l | _ => true)
    | .builtin .copy => (match c.args.toList with | s :: _ => toVal (ev f s) l | _ => true)
    | .builtin .clear => (match c.args.toList with | s :: _ => toVal (ev f s) l | _ => true)
    | _ => true)
  | _ => false
end Go.BL
