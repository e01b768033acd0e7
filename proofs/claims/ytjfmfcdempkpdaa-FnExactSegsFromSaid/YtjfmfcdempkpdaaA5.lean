/- That the machine follows each operation over an abstract heap. Conditions: none. -/
import Derived.Test.YtjfmfcdempkpdaaA4
namespace Go.AL
open Go.RowKit
set_option linter.unusedVariables false
set_option linter.unusedSimpArgs false
section
variable {P : Program} {base : Nat} {w0 : World} {φ : Phi} {h : AH} {w : World} {f : AF} {n : Nat} {a : Act} {K : AV → AH → Prop} {next : Act → World → Prop} {Q : Exit → Act → World → Prop}
theorem boundA_spec {d : Nat} {x : Option AV} {i : Nat} (hx : boundA d x = some i) : (x = none ∧ i = d) ∨ ∃ k q, x = some (.one (.c (.int k q))) ∧ 0 ≤ q ∧ i = q.toNat := by
  unfold boundA at hx
  split at hx
  · cases hx; exact .inl ⟨rfl, rfl⟩
  · split at hx
    · rename_i k q h0
      cases hx
      exact .inr ⟨_, _, rfl, h0, rfl⟩
    · cases hx
  · cases hx
theorem intsOf_spec {cs : List CV} : ∀ {xs : List Int}, intsOf cs = some xs → cs = xs.map fun x => CV.c (.int .u8 x) := by
  induction cs with
  | nil => intro xs h; simp [intsOf] at h; subst h; rfl
  | cons c r ih =>
    intro xs h
    unfold intsOf at h
    split at h
    · cases ‹_ :: _ = []›
    · rename_i x r' e
      cases e
      obtain ⟨ys, hy, rfl⟩ := Option.map_eq_some_iff.1 h
      rw [ih hy]
      rfl
    · cases h
theorem push_strOf : ∀ (xs : List Int) (s : ByteArray), xs.foldl (fun r n => r.push (UInt8.ofNat n.toNat)) s = ⟨(s.data.toList ++ xs.map fun n => UInt8.ofNat n.toNat).toArray⟩
  | [], s => by cases s; simp
  | x :: r, s => by
    rw [List.foldl_cons, push_strOf r]
    congr 1
    simp [ByteArray.push]
theorem run_bound (x : Option AV) (d i : Nat) (hx : boundA d x = some i) (y : Nat) (hy : i ≤ y) (code : BoundsCode) (w : World) :
    (match x.map (AV.conc φ) with | some v => Instr.sliceBound v y code | none => pure d).run P w = .ok i w := by
  rcases boundA_spec hx with ⟨rfl, rfl⟩ | ⟨k, q, rfl, h0, rfl⟩
  · rfl
  · simp only [Option.map_some, AV.conc, CV.conc, Instr.sliceBound, asIntOf, Sem.run_bind, Sem.run_pure, Result.andThen_ok]
    rw [if_pos ⟨h0, by omega⟩]
    rfl
theorem args_ev (F : FOk n φ f h.length a) (xs : Array Operand) (hb : ∀ x, x ∈ xs → ∀ t, x = Operand.tmp t → t < n) : xs.map a.eval = ((xs.toList.map (ev f)).map (AV.conc φ)).toArray := by
  apply Array.toList_inj.1
  rw [Array.toList_map, List.map_map]
  exact List.map_congr_left fun x hx => ev_conc F (fun t ht => hb x (by simpa using hx) t ht)

theorem wf_c (m : Nat) (v : Value) : (AV.one (.c v)).wf m := by unfold AV.wf; exact .inr ⟨_, rfl⟩
theorem build_sound (dst : Option Tmp) (ty : TypeId) (pos : String) (aft : Array Edge) (guard : Option (Nat × Bool)) (t : TypeId) (parts : Array (Nat × Operand)) (R : Rep base w0 φ h w)
    (E : ∀ x, x ∈ parts.toList.map (·.2) → a.eval x = (ev f x).conc φ) (W : ∀ x, x ∈ parts.toList.map (·.2) → (ev f x).wf h.length) (H : aop P (.build t parts) f h K) (A : After base w0 φ h a dst K next) :
    Oper.wp P ⟨dst, .build t parts, ty, pos, aft, guard⟩ a w next Q := by
  simp only [aop] at H
  obtain ⟨pl, hpl, H⟩ := H.elim
  obtain ⟨z, hz, H⟩ := H.elim
  obtain ⟨ps, hps, H⟩ := H.elim
  obtain ⟨cs, hcs, H⟩ := H.elim
  obtain ⟨i, v, hi, hiv, hzv, hz1⟩ := zeroA_spec hz
  obtain ⟨p1, p2, p3⟩ := partsA_spec (φ := φ) (a := a) (m := h.length) parts.toList ps E W hps
  have hf := fill_of (φ := φ) (pl[·]?) ps _ z cs p1 p2 hcs
  rw [hzv, conc_consts] at hf
  have hq : (parts.toList.map fun p => (p.1, a.eval p.2)) = (parts.map fun (i, x) => (i, a.eval x)).toList := by simp
  rw [hq] at hf
  have hb : P.built t (parts.map fun (i, x) => (i, a.eval x)).toList = some (cs.map (CV.conc φ)).toArray := by
    unfold placesA at hpl
    split at hpl
    · rename_i fs hfs
      simp only [Program.built, hi, hfs, hiv, hpl]
      simpa using hf
    · cases hpl
  have hr := run_build (P := P) w t _ _ hb
  have hzw : ∀ x ∈ z, x.wf h.length := fun x hx => by
    rw [hzv] at hx
    obtain ⟨u, hu, rfl⟩ := List.mem_map.1 hx
    exact hz1 u hu
  simp only [Oper.wp, execOp, Sem.run_bind, hr, Sem.run_pure, Result.andThen_ok, Oper.upon]
  have := A.val (v := .agg cs) R H (by unfold AV.wf; exact fillA_wf _ ps z cs hcs hzw p3)
  simpa [AV.conc] using this
theorem buildSlice_sound (dst : Option Tmp) (ty : TypeId) (pos : String) (aft : Array Edge) (guard : Option (Nat × Bool)) (t : TypeId) (len : Nat) (parts : Array (Nat × Operand)) (R : Rep base w0 φ h w)
    (E : ∀ x, x ∈ parts.toList.map (·.2) → a.eval x = (ev f x).conc φ) (W : ∀ x, x ∈ parts.toList.map (·.2) → (ev f x).wf h.length) (H : aop P (.buildSlice t len parts) f h K) (A : After base w0 φ h a dst K next) :
    Oper.wp P ⟨dst, .buildSlice t len parts, ty, pos, aft, guard⟩ a w next Q := by
  simp only [aop] at H
  obtain ⟨e, he, H⟩ := H.elim
  obtain ⟨k, hk, H⟩ := H.elim
  obtain ⟨z, hz, H⟩ := H.elim
  obtain ⟨ps, hps, H⟩ := H.elim
  obtain ⟨hzk, hk0, hlk, hlm, H⟩ := H
  obtain ⟨cs, hcs, H⟩ := H.elim
  obtain ⟨i, v, hi, hiv, hzv, hz1⟩ := zeroA_spec hz
  have ht := elemA_spec he
  have hsz : i.size = k := by unfold sizeA at hk; rw [hi] at hk; simpa using hk
  obtain ⟨p1, p2, p3⟩ := partsA_spec (φ := φ) (a := a) (m := h.length) parts.toList ps E W hps
  have hf := fill_of (φ := φ) (fun i => some (i * k, k)) ps _ (repCV z len) cs p1 p2 hcs
  have hmade := made_of (φ := φ) (e := e) hzv (by omega) len
  rw [hzk] at hmade
  rw [← hmade] at hf
  have hq : (parts.toList.map fun p => (p.1, a.eval p.2)) = (parts.map fun (i, x) => (i, a.eval x)).toList := by simp
  rw [hq] at hf
  have hcl : ∀ (ps : List (Nat × List CV)) (cs cs' : List CV), fillA (fun i => some (i * k, k)) cs ps = some cs' → cs'.length = cs.length := by
    intro ps
    induction ps with
    | nil => intro cs cs' hh; simp [fillA] at hh; rw [hh]
    | cons p r ih =>
      intro cs cs' hh
      obtain ⟨i, u⟩ := p
      simp only [fillA] at hh
      split at hh
      · rw [ih _ _ hh, cset_length]
      · cases hh
  have hcs2 := hcl ps _ cs hcs
  rw [repCV_length, hzk] at hcs2
  have hzw : ∀ x ∈ repCV z len, x.wf h.length := fun x hx => by
    have hx := repCV_mem hx
    rw [hzv] at hx
    obtain ⟨u, hu, rfl⟩ := List.mem_map.1 hx
    exact hz1 u hu
  have hr : (Instr.buildSlice t len (parts.map fun (i, x) => (i, a.eval x))).run P w = .ok (.slice (some ⟨w.heap.size, 0, none⟩) len len) (w.alloc (.cells (cs.map (CV.conc φ)).toArray e)) := by
    subst hsz
    by_cases hl0 : len = 0
    · subst hl0
      have hcs0 : cs = [] := List.length_eq_zero_iff.1 (by omega)
      subst hcs0
      simp only [madeCells, Nat.zero_mul] at hf
      simp only [Instr.buildSlice, Sem.run_bind, run_underlying ht, Result.andThen_ok, sizeOf, typeInfo, run_program, hi, Sem.run_pure, Nat.zero_mul]
      have hr0 : ∀ (g : Nat → Value), (Array.range 0).map g = #[] := fun g => by simp
      rw [hr0] at hf
      rw [if_neg (by decide), if_pos trivial]
      simp only [Sem.run_bind, Sem.run_pure, Result.andThen_ok, hr0, hf, newRow, run_newObj_alloc]
    · have hne : ¬ len * i.size = 0 := Nat.ne_of_gt (Nat.mul_pos (Nat.pos_of_ne_zero hl0) hk0)
      have hn24 : ¬ (len * i.size > 2 ^ 24) := by rw [show (2 : Nat) ^ 24 = 16777216 from rfl]; omega
      simp only [madeCells] at hf
      simp only [Instr.buildSlice, Sem.run_bind, run_underlying ht, Result.andThen_ok, sizeOf, typeInfo, run_program, hi, Sem.run_pure]
      rw [if_neg hn24, if_neg hne]
      simp only [Sem.run_bind, Sem.run_pure, Result.andThen_ok, zeroValue, typeInfo, run_program, hi, hiv, hf, newRow, run_newObj_alloc]
  have R' := R.alloc e k true cs (cs.map (CV.conc φ)).toArray (0, 0) (.inl (Nat.le_refl _)) (by simp) (fun _ => by simp) (fun _ => ⟨rfl, len, by simp [hcs2], hlm⟩) (fillA_wf _ ps _ cs hcs hzw p3) (fun j x hj => by simp [hj])
  simp only [Oper.wp, execOp, Sem.run_bind, hr, Sem.run_pure, Result.andThen_ok, Oper.upon]
  have := A (.one (.sl h.length k 0 len)) _ _ _ H R' (Rep.len_app h _) (fun l hl => phiAt_lt φ _ hl) (by unfold AV.wf CV.wf; exact .inl (by simp))
  simpa [AV.conc, CV.conc, adr, phiAt_at, hcs2, Nat.mul_div_cancel _ hk0] using this

theorem ptrs_of {xs : List Operand} {ls : List Nat} (E : ∀ x, x ∈ xs → a.eval x = (ev f x).conc φ) (W : ∀ x, x ∈ xs → (ev f x).wf h.length)
    (hm : (xs.mapM fun x => match ev f x with | .one (.ptr l 0) => some l | _ => none) = some ls) : xs.map a.eval = ls.map (fun l => Value.pointer (some (adr φ l 0))) ∧ ∀ l ∈ ls, l < h.length := by
  induction xs generalizing ls with
  | nil => simp at hm; subst hm; exact ⟨rfl, fun l hl => by cases hl⟩
  | cons x r ih =>
    rw [List.mapM_cons] at hm
    simp only [Option.bind_eq_bind, Option.pure_def] at hm
    obtain ⟨l, hl, hm⟩ := Option.bind_eq_some_iff.1 hm
    obtain ⟨ls', hls, hm⟩ := Option.bind_eq_some_iff.1 hm
    cases hm
    obtain ⟨h1, h2⟩ := ih (fun y hy => E y (List.mem_cons_of_mem _ hy)) (fun y hy => W y (List.mem_cons_of_mem _ hy)) hls
    have ex := E x (by simp)
    have wx := W x (by simp)
    split at hl
    · rename_i l' hx
      cases hl
      rw [hx] at ex wx
      refine ⟨by rw [List.map_cons, List.map_cons, h1, ex]; rfl, fun l hl => ?_⟩
      rcases List.mem_cons.1 hl with rfl | hl
      · unfold AV.wf CV.wf at wx
        rcases wx with wx | ⟨v, wx⟩
        · exact wx
        · cases wx
      · exact h2 l hl
    · cases hl
theorem makeFunc_sound (dst : Option Tmp) (ty : TypeId) (pos : String) (aft : Array Edge) (guard : Option (Nat × Bool)) (fn : Fn) (first captured : Array Operand) (R : Rep base w0 φ h w)
    (E : ∀ x, x ∈ captured.toList → a.eval x = (ev f x).conc φ) (W : ∀ x, x ∈ captured.toList → (ev f x).wf h.length) (H : aop P (.makeFunc fn first captured) f h K) (A : After base w0 φ h a dst K next) :
    Oper.wp P ⟨dst, .makeFunc fn first captured, ty, pos, aft, guard⟩ a w next Q := by
  simp only [aop] at H
  split at H
  · rename_i g
    obtain ⟨hf0, H0⟩ := H
    obtain ⟨ls, hls, H⟩ := H0.elim
    obtain ⟨h1, h2⟩ := ptrs_of (h := h) E W hls
    have hfirst : first = #[] := Array.eq_empty_of_size_eq_zero hf0
    subst hfirst
    have := A.val (v := .one (.clo g ls)) R H (by unfold AV.wf CV.wf; exact .inl h2)
    simp only [AV.conc, CV.conc, ← h1] at this
    simp only [Oper.wp, execOp, Instr.makeFunc, Sem.run_bind, Sem.run_pure, Result.andThen_ok, Oper.upon]
    have e2 : (captured.toList.map a.eval).toArray = captured.map a.eval := by apply Array.toList_inj.1; simp
    rw [e2] at this
    simpa using this
  · exact H.elim
theorem makeSlice_sound (dst : Option Tmp) (ty : TypeId) (pos : String) (aft : Array Edge) (guard : Option (Nat × Bool)) (t : TypeId) (l c : Operand) (R : Rep base w0 φ h w)
    (el : a.eval l = (ev f l).conc φ) (ec : a.eval c = (ev f c).conc φ) (H : aop P (.makeSlice t l c) f h K) (A : After base w0 φ h a dst K next) :
    Oper.wp P ⟨dst, .makeSlice t l c, ty, pos, aft, guard⟩ a w next Q := by
  simp only [aop] at H
  obtain ⟨e, he, H⟩ := H.elim
  obtain ⟨k, hk, H⟩ := H.elim
  obtain ⟨z, hz, H⟩ := H.elim
  obtain ⟨by_, hby, H⟩ := H.elim
  obtain ⟨n, hn, H⟩ := H.elim
  obtain ⟨n2, hn2, H⟩ := H.elim
  obtain ⟨rfl, hzk, hk0, hbn, hnm, H⟩ := H
  obtain ⟨i, v, hi, hiv, hzv, hz1⟩ := zeroA_spec hz
  have ht := elemA_spec he
  have hsz : i.size = k := by unfold sizeA at hk; rw [hi] at hk; simpa using hk
  have hbt : i.bytes = by_ := by unfold bytesA at hby; rw [hi] at hby; simpa using hby
  rcases boundA_spec hn with ⟨h', _⟩ | ⟨k1, q1, hx1, h10, h11⟩
  · cases h'
  rcases boundA_spec hn2 with ⟨h', _⟩ | ⟨k2, q2, hx2, h20, h21⟩
  · cases h'
  have hx1 := Option.some.inj hx1
  have hx2 := Option.some.inj hx2
  rw [hx1] at el
  rw [hx2] at ec
  simp only [AV.conc, CV.conc] at el ec
  have hq : q1 = q2 := by omega
  subst hq
  have hbb : (i.bytes : Int) * q1 ≤ 281474976710656 := by
    have h2 : (n2 : Int) = q1 := by omega
    have h3 : (i.bytes : Int) * q1 = ((by_ * n2 : Nat) : Int) := by rw [hbt, ← h2]; exact (Int.natCast_mul _ _).symm
    rw [h3]
    generalize by_ * n2 = p at hbn ⊢
    omega
  have hr := run_make (P := P) (w := w) t e i v ht hi hiv k1 k2 q1 q1 h10 (Int.le_refl _) hbb (by unfold maxLen at hnm; omega)
  rw [hsz, ← h21, ← hzk, made_of (φ := φ) (e := e) hzv (by omega) n2] at hr
  have hzw : ∀ x ∈ repCV z n2, x.wf h.length := fun x hx => by
    have hx := repCV_mem hx
    rw [hzv] at hx
    obtain ⟨u, hu, rfl⟩ := List.mem_map.1 hx
    exact hz1 u hu
  have hlen : (repCV z n2).length = n2 * k := by rw [repCV_length, hzk]
  have R' := R.alloc e k true (repCV z n2) ((repCV z n2).map (CV.conc φ)).toArray (0, 0) (.inl (Nat.le_refl _)) (by simp) (fun _ => by simp) (fun _ => ⟨rfl, n2, by simp [hlen], hnm⟩) hzw (fun j x hj => by simp [hj])
  simp only [Oper.wp, execOp, el, ec, Sem.run_bind, hr, Sem.run_pure, Result.andThen_ok, Oper.upon]
  have := A (.one (.sl h.length k 0 n2)) _ _ _ H R' (Rep.len_app h _) (fun l hl => phiAt_lt φ _ hl) (by unfold AV.wf CV.wf; exact .inl (by simp))
  simpa [AV.conc, CV.conc, adr, phiAt_at, hlen, Nat.mul_div_cancel _ hk0] using this

theorem slice_sound (dst : Option Tmp) (ty : TypeId) (pos : String) (aft : Array Edge) (guard : Option (Nat × Bool)) (t : TypeId) (x : Operand) (lo hi mx : Option Operand) (R : Rep base w0 φ h w)
    (E : ∀ y, y ∈ (Op.slice t x lo hi mx).operands → a.eval y = (ev f y).conc φ) (W : ∀ y, y ∈ (Op.slice t x lo hi mx).operands → (ev f y).wf h.length) (H : aop P (.slice t x lo hi mx) f h K) (A : After base w0 φ h a dst K next) :
    Oper.wp P ⟨dst, .slice t x lo hi mx, ty, pos, aft, guard⟩ a w next Q := by
  simp only [Op.operands] at E W
  have ex := E x (by simp)
  have wx := W x (by simp)
  have elo : lo.map a.eval = (lo.map (ev f)).map (AV.conc φ) := by cases lo with
    | none => rfl
    | some y => simp [E y (by simp)]
  have ehi : hi.map a.eval = (hi.map (ev f)).map (AV.conc φ) := by cases hi with
    | none => rfl
    | some y => simp [E y (by simp)]
  have emx : mx.map a.eval = (mx.map (ev f)).map (AV.conc φ) := by cases mx with
    | none => rfl
    | some y => simp [E y (by simp)]
  have bounds : ∀ (b : Bool) (len cap i j : Nat) (m : Nat), boundA 0 (lo.map (ev f)) = some i → boundA len (hi.map (ev f)) = some j → boundA cap (mx.map (ev f)) = some m → i ≤ j → j ≤ m → m ≤ cap → (mx.isSome = true → hi.isSome = true) →
      (Instr.sliceBounds b len cap (lo.map a.eval) (hi.map a.eval) (mx.map a.eval)).run P w = .ok (i, j, m) w := by
    intro b len cap i j m h1 h2 h3 hij hjm hmc hmh
    have r1 := fun code => run_bound (P := P) (φ := φ) _ _ _ h1 j hij code w
    have r2 := fun code => run_bound (P := P) (φ := φ) _ _ _ h2 m hjm code w
    have r3 := fun code => run_bound (P := P) (φ := φ) _ _ _ h3 cap hmc code w
    rw [← elo] at r1
    rw [← ehi] at r2
    rw [← emx] at r3
    unfold Instr.sliceBounds
    cases mx with
    | none =>
      simp [boundA] at h3
      subst h3
      cases hi with
      | none =>
        simp [boundA] at h2
        subst h2
        cases lo with
        | none => simp [boundA] at h1; subst h1; simp
        | some y => simp only [Option.map_some, Option.map_none] at r1 ⊢; simp [r1]
      | some y2 =>
        simp only [Option.map_some, Option.map_none] at r2 ⊢
        cases lo with
        | none => simp [boundA] at h1; subst h1; simp [r2]
        | some y => simp only [Option.map_some, Option.map_none] at r1 ⊢; simp [r1, r2]
    | some y3 =>
      cases hi with
      | none => simp at hmh
      | some y2 =>
        simp only [Option.map_some, Option.map_none] at r2 r3 ⊢
        cases lo with
        | none => simp [boundA] at h1; subst h1; simp [r2, r3]
        | some y => simp only [Option.map_some, Option.map_none] at r1 ⊢; simp [r1, r2, r3]
  simp only [aop] at H
  split at H
  · rename_i s hx
    obtain ⟨hs, hmx, H0⟩ := H
    obtain ⟨i, hi', H1⟩ := H0.elim
    obtain ⟨j, hj', H2⟩ := H1.elim
    obtain ⟨hij, hjs, H3⟩ := H2
    have hmx0 : mx = none := by cases mx with
      | none => rfl
      | some _ => simp at hmx
    subst hmx0
    have hb := bounds false s.size s.size i j s.size hi' hj' rfl hij hjs (Nat.le_refl _) (fun h => by simp at h)
    rw [hx] at ex
    simp only [AV.conc, CV.conc] at ex
    have hu := strA_spec hs
    simp only [Option.map_none] at hb
    simp only [Oper.wp, execOp, Instr.sliceAt, Instr.slice, ex, Sem.run_bind, run_underlying hu, Result.andThen_ok, Option.map_none, Option.isSome_none, hb, Sem.run_pure, Oper.upon, Bool.false_eq_true, if_false]
    exact A.val (v := .one (.c (.string (s.extract i j)))) R H3 (wf_c _ _)
  · rename_i hx
    obtain ⟨e, he, H⟩ := H.elim
    obtain ⟨hsz, H0⟩ := H
    obtain ⟨sz, hsz⟩ := Option.isSome_iff_exists.1 hsz
    obtain ⟨i, hi', H1⟩ := H0.elim
    obtain ⟨j, hj', H2⟩ := H1.elim
    obtain ⟨m, hm', H3⟩ := H2.elim
    obtain ⟨rfl, rfl, rfl, hmh, H4⟩ := H3
    have hu := elemA_spec he
    have hb := bounds true 0 0 0 0 0 hi' hj' hm' (Nat.le_refl _) (Nat.le_refl _) (Nat.le_refl _) hmh
    rw [hx] at ex
    simp only [AV.conc, CV.conc] at ex
    simp only [Oper.wp, execOp, Instr.sliceAt, Instr.slice, ex, Sem.run_bind, run_underlying hu, Result.andThen_ok, hb, run_sizeA hsz, Sem.run_pure, Oper.upon]
    exact A.val (v := .one (.c (.slice none 0 0))) R H4 (wf_c _ _)
  · rename_i l k off len hx
    obtain ⟨e, he, H0⟩ := H.elim
    obtain ⟨hk, hk0, H1⟩ := H0
    obtain ⟨o, ho, hlo, H1⟩ := H1.elim
    obtain ⟨i, hi', H2⟩ := H1.elim
    obtain ⟨j, hj', H3⟩ := H2.elim
    obtain ⟨hij, hjl, H4⟩ := H3
    have hu := elemA_spec he
    have hll : l < h.length := hlt ho
    rw [hx] at ex wx
    simp only [AV.conc, CV.conc] at ex
    have hoc : o.cs.length ≤ (φ l).cap := by
      have ro := R.obj l o ho
      cases o with
      | dead => simp [AO.cs]
      | ro cs => exact ro.1.2
      | own t u full cs => obtain ⟨_, _, C, fr, _, g4, _, g6, _⟩ := ro; rw [← g4]; exact g6
    have hlc : len ≤ ((φ l).cap - off) / k := (Nat.le_div_iff_mul_le hk0).2 (by omega)
    have hsub : ((φ l).cap - off) / k - i = ((φ l).cap - (off + i * k)) / k := by
      rw [← Nat.sub_sub, Nat.mul_comm i k, Nat.sub_mul_div]
    cases mx with
    | none =>
      have hb := bounds true len (((φ l).cap - off) / k) i j (((φ l).cap - off) / k) hi' hj' rfl hij (by omega) (Nat.le_refl _) (fun h => by simp at h)
      simp only [Option.map_none] at hb
      have hres : ∀ v : AV, v.conc φ = .slice (if ((φ l).cap - off) / k = i then some (adr φ l off) else (some (adr φ l off)).map (·.add (i * k))) (j - i) (((φ l).cap - off) / k - i) → K v h → v.wf h.length →
          Oper.wp P ⟨dst, .slice t x lo hi none, ty, pos, aft, guard⟩ a w next Q := by
        intro v hv hk' hw
        simp only [Oper.wp, execOp, Instr.sliceAt, Instr.slice, ex, Sem.run_bind, run_underlying hu, Result.andThen_ok, Option.map_none, hb, run_sizeA hk, Sem.run_pure, Oper.upon]
        have := A.val R hk' hw
        rw [hv] at this
        exact this
      have main : (((φ l).cap - off) / k = i → i = 0) → K (.one (.sl l k (off + i * k) (j - i))) h → Oper.wp P ⟨dst, .slice t x lo hi none, ty, pos, aft, guard⟩ a w next Q := by
        intro hci hk'
        refine hres _ ?_ hk' (by unfold AV.wf CV.wf; exact .inl hll)
        simp only [AV.conc, CV.conc, hsub]
        congr 1
        split
        · rename_i hc
          rw [hci hc]
          simp [adr]
        · simp [adr, add_lit, Nat.add_assoc]
      simp only at H4
      split at H4
      · rename_i hc
        exact main (fun e => by omega) H4
      · rename_i hc
        by_cases hcap : ((φ l).cap - off) / k = i
        · refine hres (.one (.slc l off 0 0)) ?_ H4.2 (by unfold AV.wf CV.wf; exact .inl hll)
          rw [if_pos hcap]
          simp only [AV.conc, CV.conc]
          rw [show j - i = 0 by omega, show ((φ l).cap - off) / k - i = 0 by omega]
        · exact main (fun e => absurd e hcap) H4.1
    | some m0 =>
      simp only at H4
      obtain ⟨m, hm', H5⟩ := H4.elim
      obtain ⟨hjm, hml, hhi, H6⟩ := H5
      have hb := bounds true len (((φ l).cap - off) / k) i j m hi' hj' (by
        rcases boundA_spec hm' with ⟨h', _⟩ | ⟨k1, q1, hx1, h10, h11⟩
        · cases h'
        · rw [Option.map_some, hx1]; simp only [boundA]; rw [if_pos h10, h11]) hij hjm (by omega) (fun _ => hhi)
      simp only [Oper.wp, execOp, Instr.sliceAt, Instr.slice, ex, Sem.run_bind, run_underlying hu, Result.andThen_ok, hb, run_sizeA hk, Sem.run_pure, Oper.upon]
      have := A.val R H6 (by unfold AV.wf CV.wf; exact .inl hll)
      simp only [AV.conc, CV.conc] at this
      have e3 : (if m = i then some (adr φ l off) else (some (adr φ l off)).map (·.add (i * k))) = some (adr φ l (if m = i then off else off + i * k)) := by
        split
        · rfl
        · simp [adr, add_lit, Nat.add_assoc]
      rw [e3]
      exact this
  · exact H.elim

theorem convert_sound (dst : Option Tmp) (ty : TypeId) (pos : String) (aft : Array Edge) (guard : Option (Nat × Bool)) (src td : TypeId) (x : Operand) (R : Rep base w0 φ h w) (F : FOk n φ f h.length a) (hb : ∀ t, x = Operand.tmp t → t < n)
    (H : aop P (.convert src td x) f h K) (A : After base w0 φ h a dst K next) : Oper.wp P ⟨dst, .convert src td x, ty, pos, aft, guard⟩ a w next Q := by
  have ex := ev_conc F hb
  have wx := ev_wf F hb
  simp only [aop] at H
  split at H
  · rename_i s hx
    rw [hx] at ex
    simp only [AV.conc, CV.conc] at ex
    split at H
    · rename_i hs
      obtain ⟨hsrc, H⟩ := H
      have hu := strA_spec hs
      obtain ⟨d, hd⟩ := Option.isSome_iff_exists.1 hsrc
      have hr : (convert src td (.string s)).run P w = .ok (.string s) w := by simp [convert, run_underlying hd, run_underlying hu]
      simp only [Oper.wp, execOp, ex, Sem.run_bind, hr, Sem.run_pure, Result.andThen_ok, Oper.upon]
      exact A.val (v := .one (.c (.string s))) R H (wf_c _ _)
    · obtain ⟨hs, H0⟩ := H
      obtain ⟨e, he, H1⟩ := H0.elim
      obtain ⟨hk, hsm, H2⟩ := H1
      have hr := run_bytes_of_string (P := P) w src td e s (strA_spec hs) (elemA_spec he) (kindA_spec hk)
      have hge := grownCap_ge w s.size 0 e
      have hbl : (bytesCV s).length = s.size := by rw [bytesCV, List.length_map]; rfl
      have hCs : (bytesRow s (grownCap w s.size 0 e)).size = grownCap w s.size 0 e := by
        unfold bytesRow
        rw [Array.size_append, Array.size_map, Array.size_replicate]
        show s.size + _ = _
        omega
      have R' := R.drew.alloc e 0 false (bytesCV s) (bytesRow s (grownCap w s.size 0 e)) ((bytesRow s (grownCap w s.size 0 e)).size, (bytesRow s (grownCap w s.size 0 e)).size + 1) (.inr (Nat.le_refl _)) (by rw [hbl, hCs]; exact hge) (fun h => by cases h) (fun h => absurd rfl h)
        (fun y hy => by obtain ⟨b, _, rfl⟩ := List.mem_map.1 hy; rfl) (fun j y hj => by
          have hjl := (List.getElem?_eq_some_iff.1 hj).1
          rw [hbl] at hjl
          unfold bytesCV at hj
          rw [List.getElem?_map] at hj
          obtain ⟨b, hb, rfl⟩ := Option.map_eq_some_iff.1 hj
          unfold bytesRow
          rw [Array.getElem?_append_left (by rw [Array.size_map]; exact hjl), Array.getElem?_map]
          simp only [Array.getElem?_toList] at hb
          rw [hb]
          rfl)
      have := A (.one (.sl h.length 1 0 s.size)) _ _ _ H2 R' (Rep.len_app h _) (fun l hl => phiAt_lt φ _ hl) (by unfold AV.wf CV.wf; exact .inl (by simp))
      simp only [AV.conc, CV.conc, adr, phiAt_at, hCs, Nat.sub_zero, Nat.div_one] at this
      simp only [Oper.wp, execOp, ex, Sem.run_bind, hr, Sem.run_pure, Result.andThen_ok, Oper.upon]
      simpa [hCs] using this
  · rename_i k q hx
    exact aop1_sound ⟨dst, .convert src td x, ty, pos, aft, guard⟩ R F (fun t ht => hb t (by simp [Op.operands] at ht; exact ht.symm)) H A
  · rename_i v hv1 hv2
    obtain ⟨hs, H0⟩ := H
    obtain ⟨e, he, H1⟩ := H0.elim
    obtain ⟨hk, H2⟩ := H1
    obtain ⟨r, hr, H3⟩ := H2.elim
    obtain ⟨xs, hxs, H4⟩ := H3.elim
    obtain ⟨m, cs⟩ := r
    have hcs := intsOf_spec hxs
    simp only at hcs
    subst hcs
    have hrow := rowA_spec (P := P) R hr
    obtain ⟨r1, r2, r3, r4⟩ := hrow
    have conv : ∀ (ad : Addr) (m cap : Nat), (Builtin.firstCells 1 m (.slice (some ad) m cap)).run P w = .ok ((xs.map fun x => CV.c (.int .u8 x)).map (CV.conc φ)).toArray w → (convert src td (.slice (some ad) m cap)).run P w = .ok (.string (strOfNums xs)) w := by
      intro ad m cap hfc
      rw [run_convert_bytes_string w src td e (some ad) m cap (elemA_spec he) (kindA_spec hk) (strA_spec hs)]
      have e1 : (xs.map fun x => CV.c (.int .u8 x)).map (CV.conc φ) = xs.map (Value.int .u8) := by rw [List.map_map]; rfl
      rw [e1] at hfc
      simp only [Builtin.firstCells, Nat.mul_one] at hfc
      rw [run_bytesToString w ad m cap xs hfc, push_strOf]
      simp [strOfNums]
    have hconv : (convert src td ((ev f x).conc φ)).run P w = .ok (.string (strOfNums xs)) w := by
      generalize ev f x = y at *
      unfold rowA at hr
      split at hr
      · simp only [Option.some.injEq, Prod.mk.injEq] at hr
        obtain ⟨rfl, hr⟩ := hr
        have : xs = [] := by simpa using hr.symm
        subst this
        simp only [AV.conc, CV.conc]
        rw [run_convert_bytes_string w src td e none 0 0 (elemA_spec he) (kindA_spec hk) (strA_spec hs)]
        simp [Conv.bytesToString, strOfNums]
        rfl
      · split at hr
        · rename_i hk1
          obtain ⟨o, ho, hr⟩ := Option.bind_eq_some_iff.1 hr
          split at hr
          · simp only [Option.some.injEq, Prod.mk.injEq] at hr
            obtain ⟨rfl, hr⟩ := hr
            exact conv _ _ _ (by simpa only [AV.conc, CV.conc] using r3)
          · cases hr
        · cases hr
      · obtain ⟨o, ho, hr⟩ := Option.bind_eq_some_iff.1 hr
        split at hr
        · simp only [Option.some.injEq, Prod.mk.injEq] at hr
          obtain ⟨rfl, hr⟩ := hr
          exact conv _ _ _ (by simpa only [AV.conc, CV.conc] using r3)
        · cases hr
      · exact absurd rfl (hv1 _)
      · cases hr
    simp only [Oper.wp, execOp, ex, Sem.run_bind, hconv, Sem.run_pure, Result.andThen_ok, Oper.upon]
    exact A.val (v := .one (.c (.string (strOfNums xs)))) R H4 (wf_c _ _)

theorem hasBody_enters {g : Nat} (hg : hasBody P g = true) (args : Array Value) (w : World) : (callFunc g args).run P w = .ok (.enter g args) w := by
  unfold hasBody at hg
  split at hg
  · rename_i fn hfn
    rw [Bool.and_eq_true] at hg
    obtain ⟨h1, h2⟩ := hg
    obtain ⟨c, hc⟩ := Option.isSome_iff_exists.1 h1
    have hne : fn.name ≠ "runtime.NumGoroutine" := by simpa using h2
    simp [callFunc, hfn, hne, hc, mark]
  · cases hg
set_option maxHeartbeats 1000000 in
theorem call_sound (dst : Option Tmp) (ty : TypeId) (pos : String) (aft : Array Edge) (guard : Option (Nat × Bool)) (c : Call) (R : Rep base w0 φ h w) (F : FOk n φ f h.length a) (hb : ∀ t, Operand.tmp t ∈ c.operands → t < n)
    (H : aop P (.call c) f h K) (A : After base w0 φ h a dst K next) : Oper.wp P ⟨dst, .call c, ty, pos, aft, guard⟩ a w next Q := by
  obtain ⟨callee, args, tys⟩ := c
  have E : ∀ x, x ∈ (⟨callee, args, tys⟩ : Call).operands → a.eval x = (ev f x).conc φ := fun x hx => ev_conc F (fun t ht => hb t (ht ▸ hx))
  have W : ∀ x, x ∈ (⟨callee, args, tys⟩ : Call).operands → (ev f x).wf h.length := fun x hx => ev_wf F (fun t ht => hb t (ht ▸ hx))
  simp only [aop] at H
  split at H
  · rename_i g
    simp only [Call.operands] at E W hb
    have eg := E g (by simp)
    have wg := W g (by simp)
    split at H
    · rename_i gg caps hgc
      obtain ⟨hbody, hcall⟩ := H
      rw [hgc] at eg wg
      simp only [AV.conc, CV.conc] at eg
      have eargs : args.map a.eval = ((args.toList.map (ev f)).map (AV.conc φ)).toArray := args_ev F args (fun x hx t ht => hb t (by subst ht; simp [hx]))
      have wargs : ∀ x ∈ args.toList.map (ev f) ++ caps.map (fun l => AV.one (.ptr l 0)), x.wf h.length := by
        intro x hx
        rcases List.mem_append.1 hx with hx | hx
        · obtain ⟨y, hy, rfl⟩ := List.mem_map.1 hx
          exact W y (by simp at hy ⊢; exact .inr hy)
        · obtain ⟨l, hl, rfl⟩ := List.mem_map.1 hx
          unfold AV.wf CV.wf
          unfold AV.wf CV.wf at wg
          rcases wg with wg | ⟨v, wg⟩
          · exact .inl (wg l hl)
          · cases wg
      have hC := hcall base w0 φ w R wargs
      have hargs : ((args.toList.map (ev f) ++ caps.map (fun l => AV.one (.ptr l 0))).map (AV.conc φ)).toArray = args.map a.eval ++ (caps.map fun l => Value.pointer (some (adr φ l 0))).toArray := by
        rw [eargs]
        simp [AV.conc, CV.conc, Function.comp_def]
      rw [hargs] at hC
      simp only [Oper.wp, execOp, resolve, eg, Deferred.ofValue, Sem.run_bind, Sem.run_pure, Result.andThen_ok, invoke]
      simp only [Array.empty_append, Array.append_empty, hasBody_enters hbody, Oper.upon]
      refine Calls.mono hC fun e w' he => ?_
      obtain ⟨r, h', φ', rfl, hk, R', hlen, hag, hw⟩ := he
      exact A r h' φ' w' hk R' hlen hag hw
    · exact H.elim
  · -- len
    simp only [Call.operands] at E W hb
    split at H
    · rename_i x t hxs hts
      have hargs : args = #[x] := Array.toList_inj.1 hxs
      have htys : tys = #[t] := Array.toList_inj.1 hts
      subst hargs htys
      have ex := E x (by simp)
      have fin : ∀ (q : Int), (Builtin.len_ #[t] ty #[a.eval x]).run P w = .ok (.int .i64 q) w → K (.one (.c (.int .i64 q))) h → Oper.wp P ⟨dst, .call ⟨.builtin .len, #[x], #[t]⟩, ty, pos, aft, guard⟩ a w next Q := by
        intro q hr hk
        have := A.val (v := .one (.c (.int .i64 q))) R hk (wf_c _ _)
        simp only [AV.conc, CV.conc] at this
        simpa [Oper.wp, execOp, resolve, invoke, builtin, hr, Oper.upon] using this
      split at H
      · rename_i s hx
        rw [hx] at ex
        simp only [AV.conc, CV.conc] at ex
        exact fin _ (by rw [ex]; exact run_len_string (P := P) (w := w) t ty s (strA_spec H.1)) H.2
      · rename_i hx
        rw [hx] at ex
        simp only [AV.conc, CV.conc] at ex
        obtain ⟨e, he⟩ := Option.isSome_iff_exists.1 H.1
        exact fin _ (by rw [ex]; simp [Builtin.len_, run_underlying (elemA_spec he), goInt]) H.2
      · rename_i hx
        rw [hx] at ex
        simp only [AV.conc, CV.conc] at ex
        obtain ⟨e, he⟩ := Option.isSome_iff_exists.1 H.1
        exact fin _ (by rw [ex]; simp [Builtin.len_, run_underlying (elemA_spec he), goInt]) H.2
      · rename_i hx
        rw [hx] at ex
        simp only [AV.conc, CV.conc] at ex
        obtain ⟨e, he⟩ := Option.isSome_iff_exists.1 H.1
        exact fin _ (by rw [ex]; simp [Builtin.len_, run_underlying (elemA_spec he), goInt]) H.2
      · exact H.elim
    · exact H.elim
  · -- append
    simp only [Call.operands] at E W hb
    split at H
    · rename_i s x t t2 hxs hts
      have hargs : args = #[s, x] := Array.toList_inj.1 hxs
      have htys : tys = #[t, t2] := Array.toList_inj.1 hts
      subst hargs htys
      have es := E s (by simp)
      have ex := E x (by simp)
      have ws := W s (by simp)
      obtain ⟨e, he, H⟩ := H.elim
      obtain ⟨k, hk, H⟩ := H.elim
      obtain ⟨by_, hby, H⟩ := H.elim
      obtain ⟨z, hz, H⟩ := H.elim
      obtain ⟨hzk, hk0, hb0, ht2, H⟩ := H
      obtain ⟨r, hr, H⟩ := H.elim
      obtain ⟨φ', v, h', w', hrun, hkv, R', hlen, hag, hw⟩ := app_sound R t2 ty z (elemA_spec he) hk hby hz hzk hk0 hb0 ht2 hr ws H
      rw [← es, ← ex] at hrun
      have := A v h' φ' w' hkv R' hlen hag hw
      simpa [Oper.wp, execOp, resolve, invoke, builtin, hrun, Oper.upon] using this
    · exact H.elim
  · -- min
    simp only [Call.operands] at E W hb
    split at H
    · rename_i x y hxs
      have hargs : args = #[x, y] := Array.toList_inj.1 hxs
      subst hargs
      have ex := E x (by simp)
      have ey := E y (by simp)
      split at H
      · rename_i k p k' q hx hy
        rw [hx] at ex
        rw [hy] at ey
        simp only [AV.conc, CV.conc] at ex ey
        have := A.val (v := .one (.c (.int k (if q < p then q else p)))) R H (wf_c _ _)
        simp only [AV.conc, CV.conc] at this
        simpa [Oper.wp, execOp, resolve, invoke, builtin, ex, ey, Builtin.min_, Builtin.min2, Oper.upon] using this
      · exact H.elim
    · exact H.elim
  · -- max
    simp only [Call.operands] at E W hb
    split at H
    · rename_i x y hxs
      have hargs : args = #[x, y] := Array.toList_inj.1 hxs
      subst hargs
      have ex := E x (by simp)
      have ey := E y (by simp)
      split at H
      · rename_i k p k' q hx hy
        rw [hx] at ex
        rw [hy] at ey
        simp only [AV.conc, CV.conc] at ex ey
        have := A.val (v := .one (.c (.int k (if p < q then q else p)))) R H (wf_c _ _)
        simp only [AV.conc, CV.conc] at this
        simpa [Oper.wp, execOp, resolve, invoke, builtin, ex, ey, Builtin.max_, Builtin.max2, Oper.upon] using this
      · exact H.elim
    · exact H.elim
  · exact H.elim
theorem aop_sound (o : Oper) (R : Rep base w0 φ h w) (F : FOk n φ f h.length a) (hb : ∀ t, Operand.tmp t ∈ o.op.operands → t < n) (H : aop P o.op f h K) (A : After base w0 φ h a o.dst K next) : o.wp P a w next Q := by
  have E : ∀ x, x ∈ o.op.operands → a.eval x = (ev f x).conc φ := fun x hx => ev_conc F (fun t ht => hb t (ht ▸ hx))
  have W : ∀ x, x ∈ o.op.operands → (ev f x).wf h.length := fun x hx => ev_wf F (fun t ht => hb t (ht ▸ hx))
  obtain ⟨dst, op, ty, pos, aft, guard⟩ := o
  cases op
  case build t parts => exact build_sound dst ty pos aft guard t parts R (fun x hx => E x (by simpa [Op.operands] using hx)) (fun x hx => W x (by simpa [Op.operands] using hx)) H A
  case buildSlice t len parts => exact buildSlice_sound dst ty pos aft guard t len parts R (fun x hx => E x (by simpa [Op.operands] using hx)) (fun x hx => W x (by simpa [Op.operands] using hx)) H A
  case makeSlice t l c => exact makeSlice_sound dst ty pos aft guard t l c R (E l (by simp [Op.operands])) (E c (by simp [Op.operands])) H A
  case slice t x lo hi mx => exact slice_sound dst ty pos aft guard t x lo hi mx R E W H A
  case makeFunc fn first captured => exact makeFunc_sound dst ty pos aft guard fn first captured R (fun x hx => E x (by simp only [Op.operands, Array.mem_append]; exact .inr (by simpa using hx))) (fun x hx => W x (by simp only [Op.operands, Array.mem_append]; exact .inr (by simpa using hx))) H A
  case convert src td x => exact convert_sound dst ty pos aft guard src td x R F (fun t ht => hb t (by simp [Op.operands, ht])) H A
  case call c => exact call_sound dst ty pos aft guard c R F hb H A
  all_goals exact aop1_sound ⟨dst, _, ty, pos, aft, guard⟩ R F hb H A
end
end Go.AL
