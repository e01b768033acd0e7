/- Further operations over an abstract heap: structs built, slices made, cut and appended to, strings and bytes, calls. Conditions: none. -/
import Derived.Test.YtjfmfcdempkpdaaA2
import Derived.Laws.OwnMore
import Derived.Laws.Strings2
namespace Go.AL
open Go.RowKit
set_option linter.unusedVariables false
set_option linter.unusedSimpArgs false

def hasBody (P : Program) (g : Nat) : Bool := match P.funcs[g]? with | some fn => fn.body.isSome && fn.name != "runtime.NumGoroutine" | none => false
/-- A call with its number checked. -/
def ACalls (P : Program) (g : Nat) (args : List AV) (h : AH) (K : AV → AH → Prop) : Prop := hasBody P g = true ∧ ACall P g args h K
theorem ACalls.mono {P : Program} {g : Nat} {args : List AV} {h : AH} {K K' : AV → AH → Prop} (H : ACalls P g args h K) (hk : ∀ r h', K r h' → K' r h') : ACalls P g args h K' := ⟨H.1, H.2.mono hk⟩

def repCV (cs : List CV) : Nat → List CV
  | 0 => []
  | n + 1 => cs ++ repCV cs n
theorem repCV_length (cs : List CV) : ∀ n, (repCV cs n).length = n * cs.length
  | 0 => by simp [repCV]
  | n + 1 => by rw [repCV, List.length_append, repCV_length cs n, Nat.succ_mul, Nat.add_comm]
def partsA (f : AF) : List (Nat × Operand) → Option (List (Nat × List CV))
  | [] => some []
  | (i, x) :: r => match cellsA (ev f x), partsA f r with | some cs, some q => some ((i, cs) :: q) | _, _ => none
def bytesCV (s : ByteArray) : List CV := s.data.toList.map fun b => .c (.int .u8 b.toNat)
def numsCV (k : IntKind) (xs : List Int) : List CV := xs.map fun x => .c (.int k x)
def intsOf : List CV → Option (List Int)
  | [] => some []
  | .c (.int .u8 x) :: r => (intsOf r).map (x :: ·)
  | _ :: _ => none
/-- What a slice (or a string) holds: how many elements of k cells, and the cells. -/
def rowA (h : AH) (k : Nat) : AV → Option (Nat × List CV)
  | .one (.c (.slice none 0 0)) => some (0, [])
  | .one (.sl l k' off len) => if k' = k then (h[l]?).bind fun o => if off + len * k ≤ o.cs.length then some (len, (o.cs.drop off).take (len * k)) else none else none
  | .one (.slc l off len _) => (h[l]?).bind fun o => if off + len * k ≤ o.cs.length then some (len, (o.cs.drop off).take (len * k)) else none
  | .one (.c (.string s)) => if k = 1 then some (s.size, bytesCV s) else none
  | _ => none
def boundA (len : Nat) : Option AV → Option Nat
  | none => some len
  | some (.one (.c (.int _ i))) => if 0 ≤ i then some i.toNat else none
  | _ => none

def appA (e k by_ : Nat) (h : AH) (s : AV) (m : Nat) (news : List CV) (K : AV → AH → Prop) : Prop :=
  match s with
  | .one (.c (.slice none 0 0)) => if m = 0 then K s h else m * by_ ≤ 140737488355328 ∧ K (.one (.sl h.length k 0 m)) (h ++ [.own e k false news])
  | .one (.sl l k' off len) => k' = k ∧ On (h[l]?) fun o => off + len * k ≤ o.cs.length ∧ (if m = 0 then K s h else off = 0 ∧ (match o with
    | .own e' u full cs => e' = e ∧ u = k ∧ (len + m) * by_ ≤ 140737488355328 ∧
        (if (len + m) * k ≤ cs.length then K (.one (.sl l k 0 (len + m))) (h.set l (.own e' u full (cset cs (len * k) news)))
        else if full = true then K (.one (.sl h.length k 0 (len + m))) (h ++ [.own e k false (cs.take (len * k) ++ news)])
        else K (.one (.sl h.length k 0 (len + m))) (h.set l .dead ++ [.own e k false (cs.take (len * k) ++ news)]))
    | _ => False))
  | .one (.slc l off len cap) => if m = 0 then len ≤ cap ∧ K s h else cap < len + m ∧ On (h[l]?) fun o => off + len * k ≤ o.cs.length ∧ (len + m) * by_ ≤ 140737488355328 ∧
      K (.one (.sl h.length k 0 (len + m))) (h ++ [.own e k false ((o.cs.drop off).take (len * k) ++ news)])
  | _ => False

def aop (P : Program) (op : Op) (f : AF) (h : AH) (K : AV → AH → Prop) : Prop :=
  match op with
  | .build t parts => On (placesA P t) fun pl => On (zeroA P t) fun z => On (partsA f parts.toList) fun ps => On (fillA (pl[·]?) z ps) fun cs => K (.agg cs) h
  | .buildSlice t len parts => On (elemA P t) fun e => On (sizeA P e) fun k => On (zeroA P e) fun z => On (partsA f parts.toList) fun ps => z.length = k ∧ 0 < k ∧ len * k ≤ 16777216 ∧ len ≤ maxLen ∧
      On (fillA (fun i => some (i * k, k)) (repCV z len) ps) fun cs => K (.one (.sl h.length k 0 len)) (h ++ [.own e k true cs])
  | .makeSlice t l c => On (elemA P t) fun e => On (sizeA P e) fun k => On (zeroA P e) fun z => On (bytesA P e) fun by_ => On (boundA 0 (some (ev f l))) fun n => On (boundA 0 (some (ev f c))) fun n2 => n2 = n ∧ z.length = k ∧ 0 < k ∧ by_ * n ≤ 281474976710656 ∧ n ≤ maxLen ∧
      K (.one (.sl h.length k 0 n)) (h ++ [.own e k true (repCV z n)])
  | .slice t x lo hi mx => (match ev f x with
    | .one (.c (.string s)) => strA P t = true ∧ mx.isNone = true ∧ On (boundA 0 (lo.map (ev f))) fun i => On (boundA s.size (hi.map (ev f))) fun j => i ≤ j ∧ j ≤ s.size ∧ K (.one (.c (.string (s.extract i j)))) h
    | .one (.c (.slice none 0 0)) => On (elemA P t) fun e => (sizeA P e).isSome = true ∧ On (boundA 0 (lo.map (ev f))) fun i => On (boundA 0 (hi.map (ev f))) fun j => On (boundA 0 (mx.map (ev f))) fun m => i = 0 ∧ j = 0 ∧ m = 0 ∧ (mx.isSome = true → hi.isSome = true) ∧ K (.one (.c (.slice none 0 0))) h
    | .one (.sl l k off len) => On (elemA P t) fun e => sizeA P e = some k ∧ 0 < k ∧ On (h[l]?) fun o => off + len * k ≤ o.cs.length ∧ On (boundA 0 (lo.map (ev f))) fun i => On (boundA len (hi.map (ev f))) fun j => i ≤ j ∧ j ≤ len ∧ (match mx with
      | none => if i < len ∨ i = 0 then K (.one (.sl l k (off + i * k) (j - i))) h else K (.one (.sl l k (off + i * k) (j - i))) h ∧ K (.one (.slc l off 0 0)) h
      | some m0 => On (boundA 0 (some (ev f m0))) fun m => j ≤ m ∧ m ≤ len ∧ hi.isSome = true ∧ K (.one (.slc l (if m = i then off else off + i * k) (j - i) (m - i))) h)
    | _ => False)
  | .makeFunc fn first captured => (match fn with
    | .func g => first.size = 0 ∧ On (captured.toList.mapM fun x => match ev f x with | .one (.ptr l 0) => some l | _ => none) fun ls => K (.one (.clo g ls)) h
    | _ => False)
  | .convert src dst x => (match ev f x with
    | .one (.c (.string s)) => if strA P dst = true then (P.underlying src).isSome = true ∧ K (.one (.c (.string s))) h else strA P src = true ∧ On (elemA P dst) fun e => kindA P e = some .u8 ∧ s.size ≤ maxLen ∧
        (K (.one (.sl h.length 1 0 s.size)) (h ++ [.own e 0 false (bytesCV s)]))
    | .one (.c (.int k n)) => aop1 P (.convert src dst x) f h K
    | v => strA P dst = true ∧ On (elemA P src) fun e => kindA P e = some .u8 ∧ On (rowA h 1 v) fun r => On (intsOf r.2) fun xs => K (.one (.c (.string (strOfNums xs)))) h)
  | .call c => (match c.callee with
    | .value g => (match ev f g with
      | .one (.clo g caps) => ACalls P g (c.args.toList.map (ev f) ++ caps.map fun l => .one (.ptr l 0)) h K
      | _ => False)
    | .builtin .len => (match c.args.toList, c.argTypes.toList with
      | [x], [t] => (match ev f x with
        | .one (.c (.string s)) => strA P t = true ∧ K (.one (.c (.int .i64 s.size))) h
        | .one (.c (.slice none 0 0)) => (elemA P t).isSome = true ∧ K (.one (.c (.int .i64 0))) h
        | .one (.sl _ _ _ len) => (elemA P t).isSome = true ∧ K (.one (.c (.int .i64 len))) h
        | .one (.slc _ _ len _) => (elemA P t).isSome = true ∧ K (.one (.c (.int .i64 len))) h
        | _ => False)
      | _, _ => False)
    | .builtin .append => (match c.args.toList, c.argTypes.toList with
      | [s, x], [t, t2] => On (elemA P t) fun e => On (sizeA P e) fun k => On (bytesA P e) fun by_ => On (zeroA P e) fun z => z.length = k ∧ 0 < k ∧ 0 < by_ ∧ ((elemA P t2).isSome || strA P t2) = true ∧ On (rowA h k (ev f x)) fun r => appA e k by_ h (ev f s) r.1 r.2 K
      | _, _ => False)
    | .builtin .min => (match c.args.toList with
      | [x, y] => (match ev f x, ev f y with
        | .one (.c (.int k a)), .one (.c (.int k' b)) => K (.one (.c (.int k (if b < a then b else a)))) h
        | _, _ => False)
      | _ => False)
    | .builtin .max => (match c.args.toList with
      | [x, y] => (match ev f x, ev f y with
        | .one (.c (.int k a)), .one (.c (.int k' b)) => K (.one (.c (.int k (if a < b then b else a)))) h
        | _, _ => False)
      | _ => False)
    | _ => False)
  | op => aop1 P op f h K
end Go.AL
