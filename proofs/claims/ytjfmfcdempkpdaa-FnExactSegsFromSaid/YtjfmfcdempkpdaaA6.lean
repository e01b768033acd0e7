/- Operations that may be taken first in a region whose order is open: what they yield, in every world that holds what they load. Conditions: none. -/
import Derived.Test.YtjfmfcdempkpdaaA5
namespace Go.AL
open Go.RowKit
set_option linter.unusedVariables false
set_option linter.unusedSimpArgs false
def lenA (P : Program) (t : TypeId) (v : AV) : Option (AV × Option Nat) := match v with
  | .one (.c (.string s)) => if strA P t = true then some (.one (.c (.int .i64 s.size)), none) else none
  | .one (.c (.slice none 0 0)) => if (elemA P t).isSome = true then some (.one (.c (.int .i64 0)), none) else none
  | .one (.sl _ _ _ len) => if (elemA P t).isSome = true then some (.one (.c (.int .i64 len)), none) else none
  | .one (.slc _ _ len _) => if (elemA P t).isSome = true then some (.one (.c (.int .i64 len)), none) else none
  | _ => none
def takeA (P : Program) (op : Op) (f : AF) (h : AH) : Option (AV × Option Nat) :=
  match op with
  | .move x => some (ev f x, none)
  | .assign x => some (ev f x, none)
  | .pick c a b => (match ev f c with | .one (.c (.bool t)) => some (if t = true then ev f a else ev f b, none) | _ => none)
  | .load t a => (match ev f a with
    | .one (.ptr l off) => (h[l]?).bind fun o => (partA P t o.cs off).map fun v => (v, some l)
    | _ => none)
  | .fieldAddr s x i => (match ev f x with
    | .one (.ptr l off) => (offA P s i).map fun q => (.one (.ptr l (off + q.1)), none)
    | _ => none)
  | .indexAddr t x ix => (elemA P t).bind fun e => (sizeA P e).bind fun n => (match ev f x, ev f ix with
    | .one (.sl l k off len), .one (.c (.int _ i)) => if 0 ≤ i ∧ i < len then some (.one (.ptr l (off + i.toNat * n)), none) else none
    | .one (.slc l off len cap), .one (.c (.int _ i)) => if 0 ≤ i ∧ i < len then some (.one (.ptr l (off + i.toNat * n)), none) else none
    | _, _ => none)
  | .binOp op t x y _ => (match ev f x, ev f y with
    | .one (.c a), .one (.c b) => (binA P op t a b).map fun v => (.one (.c v), none)
    | _, _ => none)
  | .unOp op _ x => (match ev f x with
    | .one (.c a) => (unA op a).map fun v => (.one (.c v), none)
    | _ => none)
  | .extract x i => (match ev f x with
    | .tup xs => (xs[i]?).map fun v => (v, none)
    | _ => none)
  | .convert src dst x => (match kindA P dst, ev f x with
    | some k, .one (.c (.int _ n)) => if (P.underlying src).isSome = true then some (.one (.c (.int k (k.wrap n))), none) else none
    | _, _ => none)
  | .call c => (match c.callee, c.args.toList, c.argTypes.toList with
    | .builtin .len, [x], [t] => lenA P t (ev f x)
    | _, _, _ => none)
  | _ => none
section
variable {P : Program} {base : Nat} {w0 : World} {φ : Phi} {h : AH} {w : World} {f : AF} {n : Nat} {a : Act}
/-- What is asked of a world where an operation is taken. -/
def HoldsL (base : Nat) (φ : Phi) (h : AH) (w : World) : Option Nat → Prop
  | none => True
  | some l => ∃ o, h[l]? = some o ∧ RepO base φ w l o
theorem RepO.cell {l : Nat} {o : AO} (R : RepO base φ w l o) {j : Nat} {x : CV} (hj : o.cs[j]? = some x) : w.cell? (adr φ l j) = some (x.conc φ) := by
  cases o with
  | dead => cases hj
  | ro cs => exact R.2 j x hj
  | own t u full cs =>
    obtain ⟨g1, g2, C, fr, g3, g4, g5, g6, g7, g8, g9⟩ := R
    simp only [adr, g2, Nat.zero_add]
    rw [Joins.cell_of_block g3]
    exact g9 j x hj
set_option maxHeartbeats 1000000 in
theorem takeA_run (o : Oper) (F : FOk n φ f h.length a) (hb : ∀ t, Operand.tmp t ∈ o.op.operands → t < n) (hh : ∀ (l : Nat) (o : AO), h[l]? = some o → ∀ x ∈ o.cs, x.wf h.length) {v : AV} {ol : Option Nat} (H : takeA P o.op f h = some (v, ol)) :
    v.wf h.length ∧ ∀ w : World, HoldsL base φ h w ol → (execOp a.eval o).run P w = .ok (.value (v.conc φ)) w := by
  have E : ∀ x, x ∈ o.op.operands → a.eval x = (ev f x).conc φ := fun x hx => ev_conc F (fun t ht => hb t (ht ▸ hx))
  have W : ∀ x, x ∈ o.op.operands → (ev f x).wf h.length := fun x hx => ev_wf F (fun t ht => hb t (ht ▸ hx))
  clear hb F
  obtain ⟨dst, op, ty, pos, aft, guard⟩ := o
  cases op <;> simp only [Op.operands] at E W <;> simp only [takeA] at H <;> try (cases H; done)
  case move x =>
    cases H
    exact ⟨W x (by simp), fun w _ => by simp only [execOp, E x (by simp), Sem.run_pure]⟩
  case assign x =>
    cases H
    exact ⟨W x (by simp), fun w _ => by simp only [execOp, E x (by simp), Sem.run_pure]⟩
  case pick c x y =>
    split at H
    · rename_i t hc
      have ec := E c (by simp)
      rw [hc] at ec
      simp only [AV.conc, CV.conc] at ec
      simp only [Option.some.injEq, Prod.mk.injEq] at H
      obtain ⟨rfl, rfl⟩ := H
      refine ⟨by split; exact W x (by simp); exact W y (by simp), fun w _ => ?_⟩
      simp only [execOp, ec, E x (by simp), E y (by simp), asBool, Sem.run_bind, Sem.run_pure, Result.andThen_ok]
      cases t <;> rfl
    · cases H
  case load t x =>
    have e := E x (by simp)
    split at H
    · rename_i l off hx
      obtain ⟨ob, hl, H⟩ := Option.bind_eq_some_iff.1 H
      obtain ⟨v', hv, H⟩ := Option.map_eq_some_iff.1 H
      simp only [Prod.mk.injEq] at H
      obtain ⟨rfl, rfl⟩ := H
      rw [hx] at e
      refine ⟨partA_wf hv (hh l _ hl), fun w hw => ?_⟩
      obtain ⟨o', hl', ro⟩ := hw
      rw [hl] at hl'
      cases hl'
      have hr := run_loadVarA (P := P) (w := w) (φ := φ) (b := (φ l).b) (o := (φ l).o) hv (fun j y hj => ro.cell hj)
      simp only [AV.conc, CV.conc, adr] at e
      simp only [execOp, Instr.loadAt, Instr.sureAddr, e, Sem.run_bind, Sem.run_pure, Result.andThen_ok, hr]
    · cases H
  case fieldAddr s x i =>
    have e := E x (by simp)
    have hw := W x (by simp)
    split at H
    · rename_i l off hx
      obtain ⟨q, hq, H⟩ := Option.map_eq_some_iff.1 H
      simp only [Prod.mk.injEq] at H
      obtain ⟨rfl, rfl⟩ := H
      rw [hx] at e hw
      unfold offA at hq
      split at hq
      · rename_i fs hfs
        obtain ⟨fd, hfd, hq⟩ := Option.bind_eq_some_iff.1 hq
        split at hq
        · cases hq
        · rename_i hne
          cases hq
          cases hi : P.info? fd.type with
          | none => simp [hi] at hne
          | some inf =>
            simp [hi] at hne
            simp only [AV.conc, CV.conc, adr] at e
            refine ⟨by unfold AV.wf CV.wf at hw ⊢; exact .inl (by rcases hw with hw | ⟨v, hw⟩; exact hw; cases hw), fun w _ => ?_⟩
            simp [execOp, Instr.fieldAt, Instr.sureAddr, e, underlying, hfs, hfd, fieldPlace, sizeOf, typeInfo, hi, hne, add_lit, Nat.add_assoc, AV.conc, CV.conc, adr]
      · cases hq
    · cases H
  case indexAddr t x ix =>
    have e := E x (by simp)
    have ei := E ix (by simp)
    have hw := W x (by simp)
    obtain ⟨el, hel, H⟩ := Option.bind_eq_some_iff.1 H
    obtain ⟨m, hm, H⟩ := Option.bind_eq_some_iff.1 H
    have hu := elemA_spec hel
    split at H
    · rename_i l k off len kk i hx hix
      split at H
      · rename_i hc
        simp only [Option.some.injEq, Prod.mk.injEq] at H
        obtain ⟨rfl, rfl⟩ := H
        rw [hx] at e hw
        rw [hix] at ei
        simp only [AV.conc, CV.conc, adr] at e ei
        refine ⟨by unfold AV.wf CV.wf at hw ⊢; exact .inl (by rcases hw with hw | ⟨v, hw⟩; exact hw; cases hw), fun w _ => ?_⟩
        simp only [execOp, Instr.indexAt, asIntOf, e, ei, Sem.run_bind, Sem.run_pure, Result.andThen_ok, underlying, run_program, hu]
        rw [if_pos hc]
        simp [hu, run_sizeA hm, add_lit, Nat.add_assoc, AV.conc, CV.conc, adr]
      · cases H
    · rename_i l off len cap kk i hx hix
      split at H
      · rename_i hc
        simp only [Option.some.injEq, Prod.mk.injEq] at H
        obtain ⟨rfl, rfl⟩ := H
        rw [hx] at e hw
        rw [hix] at ei
        simp only [AV.conc, CV.conc, adr] at e ei
        refine ⟨by unfold AV.wf CV.wf at hw ⊢; exact .inl (by rcases hw with hw | ⟨v, hw⟩; exact hw; cases hw), fun w _ => ?_⟩
        simp only [execOp, Instr.indexAt, asIntOf, e, ei, Sem.run_bind, Sem.run_pure, Result.andThen_ok, underlying, run_program, hu]
        rw [if_pos hc]
        simp [hu, run_sizeA hm, add_lit, Nat.add_assoc, AV.conc, CV.conc, adr]
      · cases H
    · cases H
  case binOp op t x y ty2 =>
    have e := E x (by simp)
    have ey := E y (by simp)
    split at H
    · rename_i p q hx hy
      obtain ⟨v', hv, H⟩ := Option.map_eq_some_iff.1 H
      simp only [Prod.mk.injEq] at H
      obtain ⟨rfl, rfl⟩ := H
      rw [hx] at e
      rw [hy] at ey
      simp only [AV.conc, CV.conc] at e ey
      refine ⟨wf_c _ _, fun w _ => ?_⟩
      have hg : (eqGuard op t x y p q).run P w = .ok () w := by
        have hv2 := hv
        unfold binA at hv2
        split at hv2
        · exact run_guard_int _ _ _ _ _ _ _ _
        · exact run_guard_string _ _ _ _ _ _
        · exact run_guard_bool _ _ _ _ _ _
        · cases hv2
      simp only [execOp, e, ey, Sem.run_bind, hg, run_binA t hv, Sem.run_pure, Result.andThen_ok, AV.conc, CV.conc]
    · cases H
  case unOp op t x =>
    have e := E x (by simp)
    split at H
    · rename_i p hx
      obtain ⟨v', hv, H⟩ := Option.map_eq_some_iff.1 H
      simp only [Prod.mk.injEq] at H
      obtain ⟨rfl, rfl⟩ := H
      rw [hx] at e
      simp only [AV.conc, CV.conc] at e
      refine ⟨wf_c _ _, fun w _ => ?_⟩
      have hr : (Op.unary op p).run P w = .ok v' w := by
        unfold unA at hv
        split at hv <;> cases hv <;> simp [Op.unary, Op.intArith]
      simp only [execOp, e, Sem.run_bind, hr, Sem.run_pure, Result.andThen_ok, AV.conc, CV.conc]
    · cases H
  case extract x i =>
    have e := E x (by simp)
    have hw := W x (by simp)
    split at H
    · rename_i xs hx
      obtain ⟨v', hv, H⟩ := Option.map_eq_some_iff.1 H
      simp only [Prod.mk.injEq] at H
      obtain ⟨rfl, rfl⟩ := H
      rw [hx] at e hw
      simp only [AV.conc] at e
      unfold AV.wf at hw
      have hg := concs_get φ xs i v' hv
      exact ⟨wfs_get xs i v' hw hv, fun w _ => by simp only [execOp, Instr.extract, e, Sem.run_bind, List.getElem?_toArray, hg, Sem.run_pure, Result.andThen_ok]⟩
    · cases H
  case convert src dst2 x =>
    have e := E x (by simp)
    split at H
    · rename_i k kk m hk hx
      split at H
      · rename_i hsrc
        simp only [Option.some.injEq, Prod.mk.injEq] at H
        obtain ⟨rfl, rfl⟩ := H
        rw [hx] at e
        simp only [AV.conc, CV.conc] at e
        refine ⟨wf_c _ _, fun w _ => ?_⟩
        obtain ⟨d, hd⟩ := Option.isSome_iff_exists.1 hsrc
        have hr : (convert src dst2 (.int kk m)).run P w = .ok (.int k (k.wrap m)) w := by
          simp [convert, run_underlying hd, run_underlying (kindA_spec hk), Conv.intToInt]
        simp only [execOp, e, Sem.run_bind, hr, Sem.run_pure, Result.andThen_ok, AV.conc, CV.conc]
      · cases H
    · cases H
  case call c =>
    obtain ⟨cl, args, tys⟩ := c
    simp only at H
    split at H
    · rename_i x t hxs hts
      have hargs : args = #[x] := Array.toList_inj.1 hxs
      have htys : tys = #[t] := Array.toList_inj.1 hts
      subst hargs htys
      have ex := E x (by simp [Call.operands])
      have fin : ∀ (q : Int), (∀ w : World, (Builtin.len_ #[t] ty #[a.eval x]).run P w = .ok (.int .i64 q) w) → (some (AV.one (.c (.int .i64 q)), (none : Option Nat)) = some (v, ol)) →
          v.wf h.length ∧ ∀ w : World, HoldsL base φ h w ol → (execOp a.eval ⟨dst, .call ⟨.builtin .len, #[x], #[t]⟩, ty, pos, aft, guard⟩).run P w = .ok (.value (v.conc φ)) w := by
        intro q hr hk
        simp only [Option.some.injEq, Prod.mk.injEq] at hk
        obtain ⟨rfl, rfl⟩ := hk
        refine ⟨wf_c _ _, fun w _ => ?_⟩
        simp [execOp, resolve, invoke, builtin, hr w, AV.conc, CV.conc]
      unfold lenA at H
      split at H
      · rename_i s hx
        rw [hx] at ex
        simp only [AV.conc, CV.conc] at ex
        split at H
        · rename_i hs
          exact fin _ (fun w => by rw [ex]; exact run_len_string (P := P) (w := w) t ty s (strA_spec hs)) H
        · cases H
      · rename_i hx
        rw [hx] at ex
        simp only [AV.conc, CV.conc] at ex
        split at H
        · rename_i hs
          obtain ⟨e, he⟩ := Option.isSome_iff_exists.1 hs
          exact fin _ (fun w => by rw [ex]; simp [Builtin.len_, run_underlying (elemA_spec he), goInt]) H
        · cases H
      · rename_i hx
        rw [hx] at ex
        simp only [AV.conc, CV.conc] at ex
        split at H
        · rename_i hs
          obtain ⟨e, he⟩ := Option.isSome_iff_exists.1 hs
          exact fin _ (fun w => by rw [ex]; simp [Builtin.len_, run_underlying (elemA_spec he), goInt]) H
        · cases H
      · rename_i hx
        rw [hx] at ex
        simp only [AV.conc, CV.conc] at ex
        split at H
        · rename_i hs
          obtain ⟨e, he⟩ := Option.isSome_iff_exists.1 hs
          exact fin _ (fun w => by rw [ex]; simp [Builtin.len_, run_underlying (elemA_spec he), goInt]) H
        · cases H
      · cases H
    · cases H
end
end Go.AL
