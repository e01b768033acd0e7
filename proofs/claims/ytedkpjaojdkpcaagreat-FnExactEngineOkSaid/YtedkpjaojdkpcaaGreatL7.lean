/- Operations that may be taken first in a region whose order is open; the weakest precondition of code, and that the machine meets it. Conditions: none. -/
import Derived.Test.YtedkpjaojdkpcaaGreatL6
namespace Go.BL
open Go.RowKit
set_option linter.unusedVariables false
set_option linter.unusedSimpArgs false
def lenA (P : Program) (h : AH) (t : TypeId) (v : AV) : Option AV := match v with
  | .one (.c (.string s)) => if strA P t = true then some (.one (.c (.int .i64 s.size))) else none
  | .one .nl => if (elemA P t).isSome = true then some (.one (.c (.int .i64 0))) else none
  | .one .emp => if (elemA P t).isSome = true then some (.one (.c (.int .i64 0))) else none
  | .one (.im es) => if (elemA P t).isSome = true then some (.one (.c (.int .i64 es.length))) else none
  | .one (.sl l g _ len) => if (elemA P t).isSome = true ∧ (objR h l g).isSome = true then some (.one (.c (.int .i64 len))) else none
  | _ => none
/-- The less or the greater of two numbers. -/
def mmT (b : Bool) (x y : AV) : Option (AV × Option Nat) := match x, y with
  | .one (.c (.int ki a)), .one (.c (.int _ c)) => some (.one (.c (.int ki (if b = true then (if a < c then c else a) else (if c < a then c else a)))), none)
  | _, _ => none
/-- What is taken, and the object it was loaded from. -/
def takeA (P : Program) (op : Op) (f : AF) (h : AH) : Option (AV × Option Nat) :=
  match op with
  | .move x => some (ev f x, none)
  | .assign x => some (ev f x, none)
  | .pick c a b => (match ev f c with | .one (.c (.bool t)) => some (if t = true then ev f a else ev f b, none) | _ => none)
  | .load t a => (match ev f a with
    | .one (.pt l g i off) => (objR h l g).bind fun q => (q.2.2[i]?).bind fun e => (partA P t e off).map fun v => (v, some l)
    | .one (.pel e off) => (partA P t e off).map fun v => (v, none)
    | _ => none)
  | .fieldAddr s x i => (match ev f x with
    | .one (.pt l g j off) => if (objR h l g).isSome = true then (offA P s i).map fun q => (.one (.pt l g j (off + q.1)), none) else none
    | .one (.pel e off) => (offA P s i).map fun q => (.one (.pel e (off + q.1)), none)
    | _ => none)
  | .indexAddr t x ix => (elemA P t).bind fun e => (sizeA P e).bind fun n => (match ev f x, ev f ix with
    | .one (.sl l g off len), .one (.c (.int _ i)) => (objR h l g).bind fun q => if q.2.1 = n ∧ 0 ≤ i ∧ i < len then some (.one (.pt l g (off + i.toNat) 0), none) else none
    | .one (.im es), .one (.c (.int _ i)) => (es[i.toNat]?).bind fun e => if 0 ≤ i ∧ e.length = n then some (.one (.pel e 0), none) else none
    | _, _ => none)
  | .build t parts => (placesA P t).bind fun pl => (zeroA P t).bind fun z => (partsA f parts.toList).bind fun ps => (fillA (pl[·]?) z ps).map fun cs => (.agg cs, none)
  | .nilCheck x => (match ev f x with
    | .one (.pt l g i off) => if (objR h l g).isSome = true then some (.one (.pt l g i off), none) else none
    | .one (.pel e off) => some (.one (.pel e off), none)
    | _ => none)
  | .binOp op t x y _ => (match ev f x, ev f y with
    | .one (.c a), .one (.c b) => (binA P op t a b).map fun v => (.one (.c v), none)
    | _, _ => none)
  | .unOp op _ x => (match ev f x with
    | .one (.c a) => (unA op a).map fun v => (.one (.c v), none)
    | _ => none)
  | .extract x i => (match ev f x with
    | .tup xs => (xs[i]?).map fun v => (v, none)
    | _ => none)
  | .convert src dst x => (match kindA P dst, ev f x with
    | some k, .one (.c (.int _ n)) => if (P.underlying src).isSome = true then some (.one (.c (.int k (k.wrap n))), none) else none
    | _, _ => none)
  | .call c => (match c.callee, c.args.toList, c.argTypes.toList with
    | .builtin .len, [x], [t] => (lenA P h t (ev f x)).map fun v => (v, none)
    | .builtin .min, [x, y], _ => mmT false (ev f x) (ev f y)
    | .builtin .max, [x, y], _ => mmT true (ev f x) (ev f y)
    | _, _, _ => none)
  | .slice t x lo hi mx => (match mx, ev f x with
    | none, .one (.im es) => (elemA P t).bind fun e => (sizeA P e).bind fun k => (boundA 0 (lo.map (ev f))).bind fun i => (boundA es.length (hi.map (ev f))).bind fun j =>
      if ksB k es = true ∧ i ≤ j ∧ j ≤ es.length then some (.one (.im ((es.drop i).take (j - i))), none) else none
    | none, .one (.sl l g off len) => (elemA P t).bind fun e => (objR h l g).bind fun q => (boundA 0 (lo.map (ev f))).bind fun i => (boundA len (hi.map (ev f))).bind fun j =>
      if sizeA P e = some q.2.1 ∧ i ≤ j ∧ off + j ≤ q.2.2.length ∧ (off + i < q.2.2.length ∨ i = 0) then some (.one (.sl l g (off + i) (j - i)), none) else none
    | none, .one (.c (.string s)) => (boundA 0 (lo.map (ev f))).bind fun i => (boundA s.size (hi.map (ev f))).bind fun j =>
      if strA P t = true ∧ i ≤ j ∧ j ≤ s.size then some (.one (.c (.string (s.extract i j))), none) else none
    | _, _ => none)
  | _ => none
section
variable {P : Program} {G : Cx} {φ : Phi} {M : Im} {h : AH} {w : World} {f : AF} {n : Nat} {a : Act}
def ImOk (M : Im) (w : World) : Prop := ∀ a v, M a v → w.cell? a = some v
/-- An operation other than a load yields what it yields in every world. -/
def Anywhere (P : Program) (a : Act) (o : Oper) (u : Value) : Prop := ∀ w : World, (execOp a.eval o).run P w = .ok (.value u) w
/-- An operation that reads what stands in the heap. -/
def loadOp : Op → Bool
  | .load .. => true
  | _ => false
/-- What a load taken first leans on. -/
structure Take (P : Program) (G : Cx) (φ : Phi) (M : Im) (h : AH) (w : World) (a : Act) (o : Oper) (v : AV) (ol : Option Nat) (u : Value) (Hf : World → Prop) : Prop where
  val : VA φ M v u
  now : Hf w
  run : ∀ w' : World, Hf w' → (execOp a.eval o).run P w' = .ok (.value u) w'
  none : ol = none → ∀ w', ImOk M w' → Hf w'
  free : loadOp o.op = false → ∀ w', Hf w'
  strong : ∀ l, ol = some l → ∃ ob, h[l]? = some ob ∧ (∀ pl, φ l = some pl → pl.vir = false) ∧ (ob.isOwn = false → ∀ w', ImOk M w' → Hf w') ∧ (∀ p, Own φ h l p → ∀ w' : World, w'.heap[p.b]? = w.heap[p.b]? → Hf w') ∧
    (plainA v = true → ∀ G' φ' M' h' w', Rep G' φ' M' h' w' → Le φ φ' → h'[l]? = some ob → Hf w')
theorem plain_det1 {x : AV} (hx : plainA1 x = true) {φ' : Phi} {M' : Im} {u u' : Value} (hv : VA1 φ M x u) (hv' : VA1 φ' M' x u') : u = u' := by
  cases x with
  | one x =>
    cases x with
    | c v => exact (show u = v from hv).trans (show u' = v from hv').symm
    | _ => cases hx
  | agg xs =>
    obtain ⟨us, rfl, h2, h3⟩ := hv
    obtain ⟨us', rfl, h2', h3'⟩ := hv'
    congr 1
    have : us = us' := by
      apply List.ext_getElem?
      intro j
      cases hj : xs[j]? with
      | none =>
        have := List.getElem?_eq_none_iff.1 hj
        rw [List.getElem?_eq_none (by omega), List.getElem?_eq_none (by omega)]
      | some x =>
        obtain ⟨u1, q1, q2⟩ := h3 j x hj
        obtain ⟨u2, q3, q4⟩ := h3' j x hj
        have hp := (List.all_eq_true.1 hx) x (List.mem_of_getElem? hj)
        cases x with
        | c v => rw [q1, q3, V_c q2, V_c q4]
        | _ => cases hp
    rw [this]
  | _ => cases hx
theorem part_plain1 {P : Program} {t : TypeId} {cs : List CV} {off : Nat} {v : AV} (hv : partA P t cs off = some v) (hp : plainA v = true) : plainA1 v = true := by
  unfold partA at hv
  split at hv
  · split at hv
    · split at hv
      · cases hv; exact hp
      · cases hv
    · cases hv
  · obtain ⟨x, _, rfl⟩ := Option.map_eq_some_iff.1 hv; exact hp
  · cases hv
set_option maxHeartbeats 1000000 in
theorem im_cut {φ : Phi} {M : Im} {es : List (List CV)} {u : Value} {k i j : Nat} (ex : VA φ M (.one (.im es)) u) (hkes : ∀ e, e ∈ es → e.length = k) (hij : i ≤ j) (hjl : j ≤ es.length) : ∃ ad cap, u = .slice ad es.length cap ∧ es.length ≤ cap ∧ ∀ m, j ≤ m → m ≤ cap → V0 M (.im ((es.drop i).take (j - i))) (.slice (if m = i then ad else ad.map (·.add (i * k))) (j - i) (m - i)) := by
  cases (show V0 M (.im es) u from ex) with
  | im0 ad cap =>
    refine ⟨ad, cap, rfl, Nat.zero_le _, fun m _ _ => ?_⟩
    simp only [List.length_nil] at hjl
    have h1 : j = 0 := by omega
    have h2 : i = 0 := by omega
    subst h1 h2
    simp only [List.drop_nil, List.take_nil, Nat.sub_zero]
    exact V0.im0 _ _
  | im _ k' b o cap C hks hc hm hV =>
    refine ⟨_, cap, rfl, hc, fun m hjm hmc => ?_⟩
    have hlen : ((es.drop i).take (j - i)).length = j - i := by simp; omega
    by_cases he : j - i = 0
    · rw [he, List.take_zero]
      exact V0.im0 _ _
    · have hkk : k' = k := by
        cases es with
        | nil => simp at hlen; omega
        | cons e r => exact (hks e (by simp)).symm.trans (hkes e (by simp))
      subst hkk
      have hmi : ¬ m = i := by omega
      have hget : ∀ (q : Nat) (e : List CV), ((es.drop i).take (j - i))[q]? = some e → es[i + q]? = some e := fun q e hq => by
        rw [List.getElem?_take] at hq
        split at hq
        · rwa [List.getElem?_drop] at hq
        · cases hq
      have hv := V0.im (M := M) ((es.drop i).take (j - i)) k' b (o + i * k') (m - i) (fun q j' => C (i + q) j') (fun e he => hks e (List.mem_of_mem_drop (List.mem_of_mem_take he))) (by rw [hlen]; omega) (fun q e j' y hq hj' => by
          have := hm (i + q) e j' y (hget q e hq) hj'
          rw [Nat.add_mul] at this
          rw [show o + i * k' + (q * k' + j') = o + (i * k' + q * k' + j') by omega]
          exact this) (fun q e j' y hq hj' => hV (i + q) e j' y (hget q e hq) hj')
      rw [hlen] at hv
      rw [if_neg hmi, Option.map_some, add_lit]
      exact hv
theorem bounds0 {lo hi : Option Operand} (elo : ∀ y, lo = some y → VA φ M (ev f y) (a.eval y)) (ehi : ∀ y, hi = some y → VA φ M (ev f y) (a.eval y)) (b : Bool) (len cap i j : Nat) (h1 : boundA 0 (lo.map (ev f)) = some i) (h2 : boundA len (hi.map (ev f)) = some j) (hij : i ≤ j) (hjc : j ≤ cap) (w : World) :
    (Instr.sliceBounds b len cap (lo.map a.eval) (hi.map a.eval) none).run P w = .ok (i, j, cap) w := by
  have r1 := fun code => run_bound (P := P) elo _ _ h1 j hij code w
  have r2 := fun code => run_bound (P := P) ehi _ _ h2 cap hjc code w
  unfold Instr.sliceBounds
  cases hi with
  | none =>
    simp [boundA] at h2
    subst h2
    cases lo with
    | none => simp [boundA] at h1; subst h1; simp
    | some y => simp only [Option.map_some, Option.map_none] at r1 ⊢; simp [r1]
  | some y2 =>
    simp only [Option.map_some, Option.map_none] at r2 ⊢
    cases lo with
    | none => simp [boundA] at h1; subst h1; simp [r2]
    | some y => simp only [Option.map_some, Option.map_none] at r1 ⊢; simp [r1, r2]
theorem sl_cut {φ : Phi} (R : Rep G φ M h w) {l g off len i j : Nat} {q : TypeId × Nat × List (List CV)} (hq : objR h l g = some q) {u : Value} (ex : VA φ M (.one (.sl l g off len)) u) (hij : i ≤ j) (hjl : off + j ≤ q.2.2.length) :
    ∃ ad cap, u = .slice ad len cap ∧ j ≤ cap ∧ ((off + i < q.2.2.length ∨ i = 0) → VA φ M (.one (.sl l g (off + i) (j - i))) (.slice (if cap = i then ad else ad.map (·.add (i * q.2.1))) (j - i) (cap - i))) := by
  obtain ⟨p, hp, hg, hpk, hcase⟩ := sl_at R hq ex
  obtain ⟨p', hp', _, _, _, hlc, _⟩ := R.readR hq
  rw [hp] at hp'
  cases hp'
  rcases hcase with ⟨hv, rfl, rfl, hes, ad, hu⟩ | ⟨hv, hu⟩
  · rw [hes] at hjl
    simp at hjl
    have h1 : j = 0 := by omega
    have h2 : i = 0 := by omega
    subst h1 h2
    refine ⟨ad, 0, hu, Nat.le_refl _, fun _ => ?_⟩
    exact ⟨rfl, p, hp, by omega, fun _ => .inl ⟨hv, rfl, rfl, ad, rfl⟩⟩
  · refine ⟨_, p.cap - off, hu, by omega, fun hc => ?_⟩
    refine ⟨rfl, p, hp, by omega, fun _ => .inr ⟨hv, ?_⟩⟩
    rw [hpk, Nat.add_mul, Nat.sub_sub]
    congr 1
    split
    · rename_i hci
      have : i = 0 := by omega
      subst this
      simp
    · rw [Option.map_some, add_lit]
theorem takeA_run (o : Oper) (R : Rep G φ M h w) (F : FOk n φ M f a) (hb : ∀ t, Operand.tmp t ∈ o.op.operands → t < n) {v : AV} {ol : Option Nat} (H : takeA P o.op f h = some (v, ol)) : ∃ u Hf, Take P G φ M h w a o v ol u Hf := by
  have E : ∀ x, x ∈ o.op.operands → VA φ M (ev f x) (a.eval x) := fun x hx => ev_V F (fun t ht => hb t (ht ▸ hx))
  clear hb F
  have any : ∀ u, VA φ M v u → Anywhere P a o u → ol = none → ∃ u Hf, Take P G φ M h w a o v ol u Hf := fun u hu hr ho =>
    ⟨u, fun _ => True, hu, trivial, fun w' _ => hr w', fun _ _ _ => trivial, fun _ _ => trivial, fun l hl => by rw [ho] at hl; cases hl⟩
  obtain ⟨dst, op, ty, pos, aft, guard⟩ := o
  cases op <;> simp only [Op.operands] at E <;> simp only [takeA] at H <;> try (cases H; done)
  case slice t x lo hi mx =>
    split at H
    · rename_i _ es hx
      obtain ⟨e0, he, H⟩ := Option.bind_eq_some_iff.1 H
      obtain ⟨k, hk, H⟩ := Option.bind_eq_some_iff.1 H
      obtain ⟨i, hi', H⟩ := Option.bind_eq_some_iff.1 H
      obtain ⟨j, hj', H⟩ := Option.bind_eq_some_iff.1 H
      split at H
      · rename_i hc
        cases H
        have e := E x (by simp)
        rw [hx] at e
        obtain ⟨ad, cap, eu, hcap, hval⟩ := im_cut e (ksB_Ks hc.1) hc.2.1 hc.2.2
        have hu := elemA_spec he
        have hjc : j ≤ cap := Nat.le_trans hc.2.2 hcap
        refine any _ (V_VA (φ := φ) (M := M) (x := .im ((es.drop i).take (j - i))) (hval cap hjc (Nat.le_refl _))) (fun w => ?_) rfl
        have hb := bounds0 (P := P) (fun y hy => E y (by simp [hy])) (fun y hy => E y (by simp [hy])) true es.length cap i j hi' hj' hc.2.1 hjc w
        simp only [execOp, Instr.sliceAt, Instr.slice, eu, Sem.run_bind, run_underlying hu, Result.andThen_ok, Option.map_none, Option.isSome_none, hb, run_sizeA hk, Sem.run_pure]
      · cases H
    · rename_i _ l g off len hx
      obtain ⟨e0, he, H⟩ := Option.bind_eq_some_iff.1 H
      obtain ⟨q, hq, H⟩ := Option.bind_eq_some_iff.1 H
      obtain ⟨i, hi', H⟩ := Option.bind_eq_some_iff.1 H
      obtain ⟨j, hj', H⟩ := Option.bind_eq_some_iff.1 H
      split at H
      · rename_i hc
        cases H
        have e := E x (by simp)
        rw [hx] at e
        obtain ⟨hk, hij, hjl, hcc⟩ := hc
        obtain ⟨ad, cap, hex, hjc, hV⟩ := sl_cut R hq e hij hjl
        have hu := elemA_spec he
        refine any _ (hV hcc) (fun w => ?_) rfl
        have hb := bounds0 (P := P) (fun y hy => E y (by simp [hy])) (fun y hy => E y (by simp [hy])) true len cap i j hi' hj' hij hjc w
        simp only [execOp, Instr.sliceAt, Instr.slice, hex, Sem.run_bind, run_underlying hu, Result.andThen_ok, Option.map_none, Option.isSome_none, hb, run_sizeA hk, Sem.run_pure]
      · cases H
    · rename_i _ s hx
      obtain ⟨i, hi', H⟩ := Option.bind_eq_some_iff.1 H
      obtain ⟨j, hj', H⟩ := Option.bind_eq_some_iff.1 H
      split at H
      · rename_i hc
        cases H
        obtain ⟨hs, hij, hjl⟩ := hc
        have e := E x (by simp)
        rw [hx] at e
        have ex := VA_c e
        have hu := strA_spec hs
        refine any (.string (s.extract i j)) rfl (fun w => ?_) rfl
        have hb := bounds0 (P := P) (fun y hy => E y (by simp [hy])) (fun y hy => E y (by simp [hy])) false s.size s.size i j hi' hj' hij hjl w
        simp only [execOp, Instr.sliceAt, Instr.slice, ex, Sem.run_bind, run_underlying hu, Result.andThen_ok, Option.map_none, Option.isSome_none, hb, Sem.run_pure, Bool.false_eq_true, if_false]
      · cases H
    · cases H
  case move x =>
    cases H
    exact any _ (E x (by simp)) (fun w => by simp only [execOp, Sem.run_pure]) rfl
  case assign x =>
    cases H
    exact any _ (E x (by simp)) (fun w => by simp only [execOp, Sem.run_pure]) rfl
  case pick c x y =>
    split at H
    · rename_i t hc
      have ec := E c (by simp)
      rw [hc] at ec
      have ec := VA_c ec
      simp only [Option.some.injEq, Prod.mk.injEq] at H
      obtain ⟨rfl, rfl⟩ := H
      cases t
      · exact any (a.eval y) (E y (by simp)) (fun w => by simp only [execOp, ec, asBool, Sem.run_bind, Sem.run_pure, Result.andThen_ok]; rfl) rfl
      · exact any (a.eval x) (E x (by simp)) (fun w => by simp only [execOp, ec, asBool, Sem.run_bind, Sem.run_pure, Result.andThen_ok]; rfl) rfl
    · cases H
  case load t x =>
    have e := E x (by simp)
    split at H
    · rename_i l g i off hx
      obtain ⟨q, hq, H⟩ := Option.bind_eq_some_iff.1 H
      obtain ⟨el, hel, H⟩ := Option.bind_eq_some_iff.1 H
      obtain ⟨v', hv, H⟩ := Option.map_eq_some_iff.1 H
      simp only [Prod.mk.injEq] at H
      obtain ⟨rfl, rfl⟩ := H
      rw [hx] at e
      obtain ⟨p, hp, hg, hk, hvir, eu⟩ := pt_at R hq e
      obtain ⟨p', hp', _, _, _, _, _, hcc⟩ := R.readR hq
      rw [hp] at hp'
      cases hp'
      have hc := (hcc i el hel).2
      obtain ⟨C, hC⟩ := choose_cells hc
      obtain ⟨u, hu, hr⟩ := run_loadVarA (P := P) (b := p.b) (o := i * q.2.1) hv C (fun j y hj => (hC j y hj).2)
      have exec : ∀ w' : World, (loadVar t ⟨p.b, i * q.2.1 + off, none⟩).run P w' = .ok u w' → (execOp a.eval ⟨dst, .load t x, ty, pos, aft, guard⟩).run P w' = .ok (.value u) w' := fun w' hw => by
        rw [← hk] at hw
        simp only [execOp, Instr.loadAt, Instr.sureAddr, eu, Sem.run_bind, Sem.run_pure, Result.andThen_ok, hw]
      have hob : ∃ ob, h[l]? = some ob := by
        unfold objR at hq
        split at hq
        · exact ⟨_, by assumption⟩
        · exact ⟨_, by assumption⟩
        · cases hq
      obtain ⟨ob, hob⟩ := hob
      refine ⟨u, fun w' => (loadVar t ⟨p.b, i * q.2.1 + off, none⟩).run P w' = .ok u w', hu, hr w (fun j y hj => (hC j y hj).1), exec, fun h0 => by (cases h0), fun h0 => by (cases h0), fun l' hl' => ?_⟩
      cases hl'
      refine ⟨ob, hob, fun pl hpl => (by rw [hp] at hpl; cases hpl; exact hvir), fun hno w' hi => ?_, fun p2 ho w' hw' => ?_, fun hpl G' φ' M' h' w' R' hle hl' => ?_⟩
      · -- stands for good
        refine hr w' (fun j y hj => ?_)
        unfold objR at hq
        rw [hob] at hq
        cases ob with
        | dead => simp at hq
        | own _ _ _ _ _ => cases hno
        | ro g' t' k' es' =>
          simp only at hq
          split at hq
          · cases hq
            obtain ⟨p2, q1, q2, q3, q4, q5, q6, q7⟩ := R.obj l _ hob
            rw [hp] at q1
            cases q1
            obtain ⟨q8, C2, q9⟩ := q7 hvir
            obtain ⟨q10, q11⟩ := q9 _ el j y hel hj
            rw [q3] at q10
            have h1 := (R.imm _ _ q10).1
            have h2 := (hC j y hj).1
            rw [h1] at h2
            rw [← h2]
            exact hi _ _ q10
          · cases hq
      · have : p2 = p := by obtain ⟨_, _, _, _, _, _, hp2, _⟩ := ho; rw [hp] at hp2; cases hp2; rfl
        subst this
        refine hr w' (fun j y hj => ?_)
        rw [cell_same (w := w) hw']
        exact (hC j y hj).1
      · have hq' : objR h' l g = some q := by
          unfold objR at hq ⊢
          rw [hob] at hq
          rw [hl']
          exact hq
        obtain ⟨p', h1, h2, h3, _, _, _, hcc'⟩ := R'.readR hq'
        have hpp : p' = p := by
          obtain ⟨p2, h4, h5⟩ := hle l p hp
          rw [h1] at h4
          cases h4
          rcases h5 with h5 | h5
          · exact h5
          · omega
        subst hpp
        obtain ⟨C', hC'⟩ := choose_cells (hcc' i el hel).2
        obtain ⟨u', hu', hr'⟩ := run_loadVarA (P := P) (b := p'.b) (o := i * q.2.1) hv C' (fun j y hj => (hC' j y hj).2)
        have hp1 := part_plain1 hv hpl
        have conv : ∀ (φ : Phi) (M : Im) (u : Value), VA φ M v' u → VA1 φ M v' u := fun φ M u hu => by
          cases v' with
          | tup _ => cases hp1
          | one x => exact hu
          | agg x => exact hu
          | any => trivial
        have := plain_det1 hp1 (conv _ _ _ hu) (conv _ _ _ hu')
        rw [this]
        exact hr' w' (fun j y hj => (hC' j y hj).1)
    · rename_i el off hx
      obtain ⟨v', hv, H⟩ := Option.map_eq_some_iff.1 H
      simp only [Prod.mk.injEq] at H
      obtain ⟨rfl, rfl⟩ := H
      rw [hx] at e
      generalize hax : a.eval x = ux at e
      cases (show V0 M (.pel el off) ux from e) with
      | pel _ _ b o C hm hV =>
        obtain ⟨u, hu, hr⟩ := run_loadVarA (P := P) (φ := φ) (M := M) (b := b) (o := o) hv C (fun j y hj => V0_V (hV j y hj))
        refine ⟨u, ImOk M, hu, fun a v q => (R.imm a v q).1, fun w' hi => ?_, fun _ w' hi => hi, fun h0 => by (cases h0), fun l hl => by cases hl⟩
        have hr := hr w' (fun j y hj => hi _ _ (hm j y hj))
        simp only [execOp, Instr.loadAt, Instr.sureAddr, hax, Sem.run_bind, Sem.run_pure, Result.andThen_ok, hr]
    · cases H
  case build t parts =>
    obtain ⟨pl, hpl, H⟩ := Option.bind_eq_some_iff.1 H
    obtain ⟨z, hz, H⟩ := Option.bind_eq_some_iff.1 H
    obtain ⟨ps, hps, H⟩ := Option.bind_eq_some_iff.1 H
    obtain ⟨cs, hcs, H⟩ := Option.map_eq_some_iff.1 H
    simp only [Prod.mk.injEq] at H
    obtain ⟨rfl, rfl⟩ := H
    obtain ⟨i, v, hi, hiv, hzv, hz1⟩ := zeroA_spec hz
    have hp := partsA_spec (φ := φ) (M := M) (a := a) parts.toList ps (fun x hx => E x (by simpa using hx)) hps
    obtain ⟨us', hf, hv⟩ := fill_of (pl[·]?) ps _ z cs v.cells.toList hp (by rw [hzv]; exact Vs_cvOf _ hz1) hcs
    have hq : (parts.toList.map fun p => (p.1, a.eval p.2)) = (parts.map fun (i, x) => (i, a.eval x)).toList := by simp
    rw [hq] at hf
    have hb : P.built t (parts.map fun (i, x) => (i, a.eval x)).toList = some us'.toArray := by
      unfold placesA at hpl
      split at hpl
      · rename_i fs hfs
        simp only [Program.built, hi, hfs, hiv, hpl]
        simpa using hf
      · cases hpl
    exact any _ ⟨us', rfl, hv⟩ (fun w' => by
      have hr := run_build (P := P) w' t _ _ hb
      simp only [execOp, Sem.run_bind, hr, Sem.run_pure, Result.andThen_ok]) rfl
  case nilCheck x =>
    have e := E x (by simp)
    split at H
    · rename_i l g i off hx
      split at H
      · rename_i ho
        cases H
        obtain ⟨qo, hqo⟩ := Option.isSome_iff_exists.1 ho
        rw [hx] at e
        obtain ⟨p, hp, hg, hk, hvir, eu⟩ := pt_at R hqo e
        exact any _ e (fun w' => by simp only [execOp, eu, Sem.run_pure]) rfl
      · cases H
    · rename_i el off hx
      cases H
      rw [hx] at e
      have hp : ∃ b o, a.eval x = .pointer (some ⟨b, o, none⟩) := by
        generalize a.eval x = ux at e
        cases (show V0 M (.pel el off) ux from e) with
        | pel _ _ b o C hm hV => exact ⟨_, _, rfl⟩
      obtain ⟨b, o, hax⟩ := hp
      exact any _ e (fun w' => by simp only [execOp, hax, Sem.run_pure]) rfl
    · cases H
  case fieldAddr s x i =>
    have e := E x (by simp)
    have key : ∀ (b o : Nat) (q : Nat × TypeId), offA P s i = some q → a.eval x = .pointer (some ⟨b, o, none⟩) → Anywhere P a ⟨dst, .fieldAddr s x i, ty, pos, aft, guard⟩ (.pointer (some ⟨b, o + q.1, none⟩)) := by
      intro b o q hq eu w'
      unfold offA at hq
      split at hq
      · rename_i fs hfs
        obtain ⟨fd, hfd, hq⟩ := Option.bind_eq_some_iff.1 hq
        split at hq
        · cases hq
        · rename_i hne
          cases hq
          cases hi : P.info? fd.type with
          | none => simp [hi] at hne
          | some inf =>
            simp [hi] at hne
            simp [execOp, Instr.fieldAt, Instr.sureAddr, eu, underlying, hfs, hfd, fieldPlace, sizeOf, typeInfo, hi, hne, add_lit, Nat.add_assoc]
      · cases hq
    split at H
    · rename_i l g j off hx
      split at H
      · rename_i ho
        obtain ⟨qo, hqo⟩ := Option.isSome_iff_exists.1 ho
        obtain ⟨q, hq, H⟩ := Option.map_eq_some_iff.1 H
        simp only [Prod.mk.injEq] at H
        obtain ⟨rfl, rfl⟩ := H
        rw [hx] at e
        obtain ⟨p, hp, hg, hk, hvir, eu⟩ := pt_at R hqo e
        exact any _ ⟨rfl, p, hp, by omega, fun _ => ⟨hvir, by rw [Nat.add_assoc]⟩⟩ (key _ _ _ hq eu) rfl
      · cases H
    · rename_i el off hx
      obtain ⟨q, hq, H⟩ := Option.map_eq_some_iff.1 H
      simp only [Prod.mk.injEq] at H
      obtain ⟨rfl, rfl⟩ := H
      rw [hx] at e
      generalize hax : a.eval x = ux at e
      cases (show V0 M (.pel el off) ux from e) with
      | pel _ _ b o C hm hV =>
        refine any _ ?_ (key _ _ _ hq hax) rfl
        rw [Nat.add_assoc]
        exact V0.pel el (off + q.1) b o C hm hV
    · cases H
  case indexAddr t x ix =>
    have e := E x (by simp)
    have ei := E ix (by simp)
    obtain ⟨el, hel, H⟩ := Option.bind_eq_some_iff.1 H
    obtain ⟨m, hm, H⟩ := Option.bind_eq_some_iff.1 H
    have hu := elemA_spec hel
    have key : ∀ (b o len cap : Nat) (kk : IntKind) (i : Int), a.eval x = .slice (some ⟨b, o, none⟩) len cap → a.eval ix = .int kk i → 0 ≤ i → i < len → Anywhere P a ⟨dst, .indexAddr t x ix, ty, pos, aft, guard⟩ (.pointer (some ⟨b, o + i.toNat * m, none⟩)) := by
      intro b o len cap kk i eu eu2 h0 h1 w'
      simp only [execOp, Instr.indexAt, asIntOf, eu, eu2, Sem.run_bind, Sem.run_pure, Result.andThen_ok, underlying, run_program, hu]
      rw [if_pos ⟨h0, h1⟩]
      simp [hu, run_sizeA hm, add_lit, Nat.add_assoc]
    split at H
    · rename_i l g off len kk i hx hix
      obtain ⟨q, hq, H⟩ := Option.bind_eq_some_iff.1 H
      split at H
      · rename_i hc
        obtain ⟨hkm, h0, h1⟩ := hc
        simp only [Option.some.injEq, Prod.mk.injEq] at H
        obtain ⟨rfl, rfl⟩ := H
        rw [hx] at e
        rw [hix] at ei
        obtain ⟨p, hp, hg, hk, hcase⟩ := sl_at R hq e
        rcases hcase with ⟨_, _, hl0, _⟩ | ⟨hvir, eu⟩
        · omega
        · refine any _ ?_ (key _ _ _ _ _ _ eu (VA_c ei) h0 h1) rfl
          refine ⟨rfl, p, hp, by omega, fun _ => ⟨hvir, ?_⟩⟩
          rw [hk, hkm, Nat.add_zero, Nat.add_mul]
      · cases H
    · rename_i es kk i hx hix
      obtain ⟨ee, hee, H⟩ := Option.bind_eq_some_iff.1 H
      split at H
      · rename_i hc
        obtain ⟨h0, hkn⟩ := hc
        simp only [Option.some.injEq, Prod.mk.injEq] at H
        obtain ⟨rfl, rfl⟩ := H
        rw [hx] at e
        rw [hix] at ei
        have hil := (List.getElem?_eq_some_iff.1 hee).1
        generalize hax : a.eval x = ux at e
        cases (show V0 M (.im es) ux from e) with
        | im0 _ _ => simp at hee
        | im _ k b o cap C hk hc hm' hV =>
          have hkk : k = m := by rw [← hkn]; exact (hk ee (List.mem_of_getElem? hee)).symm
          subst hkk
          refine any _ ?_ (key _ _ _ _ _ _ hax (VA_c ei) h0 (by omega)) rfl
          exact V0.pel (M := M) ee 0 b (o + i.toNat * k) (C i.toNat) (fun j x hj => by rw [Nat.add_assoc]; exact hm' i.toNat ee j x hee hj) (fun j x hj => hV i.toNat ee j x hee hj)
      · cases H
    · cases H
  case binOp op t x y ty2 =>
    have e := E x (by simp)
    have ey := E y (by simp)
    split at H
    · rename_i p q hx hy
      obtain ⟨v', hv, H⟩ := Option.map_eq_some_iff.1 H
      simp only [Prod.mk.injEq] at H
      obtain ⟨rfl, rfl⟩ := H
      rw [hx] at e
      rw [hy] at ey
      have e := VA_c e
      have ey := VA_c ey
      refine any _ (mk_c _) (fun w' => ?_) rfl
      have hg : (eqGuard op t x y p q).run P w' = .ok () w' := by
        have hv2 := hv
        unfold binA at hv2
        split at hv2
        · exact run_guard_int _ _ _ _ _ _ _ _
        · exact run_guard_string _ _ _ _ _ _
        · exact run_guard_bool _ _ _ _ _ _
        · cases hv2
      simp only [execOp, e, ey, Sem.run_bind, hg, run_binA t hv, Sem.run_pure, Result.andThen_ok]
    · cases H
  case unOp op t x =>
    have e := E x (by simp)
    split at H
    · rename_i p hx
      obtain ⟨v', hv, H⟩ := Option.map_eq_some_iff.1 H
      simp only [Prod.mk.injEq] at H
      obtain ⟨rfl, rfl⟩ := H
      rw [hx] at e
      have e := VA_c e
      refine any _ (mk_c _) (fun w' => ?_) rfl
      have hr : (Op.unary op p).run P w' = .ok v' w' := by
        unfold unA at hv
        split at hv <;> cases hv <;> simp [Op.unary, Op.intArith]
      simp only [execOp, e, Sem.run_bind, hr, Sem.run_pure, Result.andThen_ok]
    · cases H
  case extract x i =>
    have e := E x (by simp)
    split at H
    · rename_i xs hx
      obtain ⟨v', hv, H⟩ := Option.map_eq_some_iff.1 H
      simp only [Prod.mk.injEq] at H
      obtain ⟨rfl, rfl⟩ := H
      rw [hx] at e
      obtain ⟨us, eu, h1, h2⟩ := e
      obtain ⟨u, h3, h4⟩ := h2 i v' hv
      exact any u (VA1_VA h4) (fun w' => by simp only [execOp, Instr.extract, eu, Sem.run_bind, List.getElem?_toArray, h3, Sem.run_pure, Result.andThen_ok]) rfl
    · cases H
  case convert src dst2 x =>
    have e := E x (by simp)
    split at H
    · rename_i k kk m hk hx
      split at H
      · rename_i hsrc
        simp only [Option.some.injEq, Prod.mk.injEq] at H
        obtain ⟨rfl, rfl⟩ := H
        rw [hx] at e
        have e := VA_c e
        refine any _ (mk_c _) (fun w' => ?_) rfl
        obtain ⟨d, hd⟩ := Option.isSome_iff_exists.1 hsrc
        have hr : (convert src dst2 (.int kk m)).run P w' = .ok (.int k (k.wrap m)) w' := by
          simp [convert, run_underlying hd, run_underlying (kindA_spec hk), Conv.intToInt]
        simp only [execOp, e, Sem.run_bind, hr, Sem.run_pure, Result.andThen_ok]
      · cases H
    · cases H
  case call c =>
    obtain ⟨cl, args, tys⟩ := c
    simp only at H
    split at H
    · rename_i x t hxs hts
      have hargs : args = #[x] := Array.toList_inj.1 hxs
      have htys : tys = #[t] := Array.toList_inj.1 hts
      subst hargs htys
      have ex := E x (by simp [Call.operands])
      obtain ⟨v', hv, H⟩ := Option.map_eq_some_iff.1 H
      simp only [Prod.mk.injEq] at H
      obtain ⟨rfl, rfl⟩ := H
      have fin : ∀ (q : Int), (∀ w : World, (Builtin.len_ #[t] ty #[a.eval x]).run P w = .ok (.int .i64 q) w) → v' = .one (.c (.int .i64 q)) → ∃ u Hf, Take P G φ M h w a ⟨dst, .call ⟨.builtin .len, #[x], #[t]⟩, ty, pos, aft, guard⟩ v' none u Hf := by
        intro q hr hk
        subst hk
        refine any _ (mk_c _) (fun w' => ?_) rfl
        simp [execOp, resolve, invoke, builtin, hr w']
      have sl : ∀ (ad : Option Addr) (m c : Nat), (elemA P t).isSome = true → a.eval x = .slice ad m c → ∀ w : World, (Builtin.len_ #[t] ty #[a.eval x]).run P w = .ok (.int .i64 m) w := by
        intro ad m c he hu w'
        obtain ⟨e, he⟩ := Option.isSome_iff_exists.1 he
        rw [hu]
        simp [Builtin.len_, run_underlying (elemA_spec he), goInt]
      unfold lenA at hv
      split at hv
      · rename_i s hx
        rw [hx] at ex
        have ex := VA_c ex
        split at hv
        · rename_i hs
          cases hv
          exact fin _ (fun w => by rw [ex]; exact run_len_string (P := P) (w := w) t ty s (strA_spec hs)) rfl
        · cases hv
      · rename_i hx
        rw [hx] at ex
        split at hv
        · rename_i hs
          cases hv
          have hu : a.eval x = .slice none 0 0 := by
            generalize a.eval x = ux at ex
            cases (show V0 M .nl ux from ex)
            rfl
          exact fin _ (sl _ _ _ hs hu) rfl
        · cases hv
      · rename_i hx
        rw [hx] at ex
        split at hv
        · rename_i hs
          cases hv
          have hu : ∃ ad, a.eval x = .slice ad 0 0 := by
            generalize a.eval x = ux at ex
            cases (show V0 M .emp ux from ex) with
            | emp ad => exact ⟨ad, rfl⟩
          obtain ⟨ad, hu⟩ := hu
          exact fin _ (sl _ _ _ hs hu) rfl
        · cases hv
      · rename_i es hx
        rw [hx] at ex
        split at hv
        · rename_i hs
          cases hv
          have hu : ∃ ad c, a.eval x = .slice ad es.length c := by
            generalize a.eval x = ux at ex
            cases (show V0 M (.im es) ux from ex) with
            | im0 ad c => exact ⟨_, _, rfl⟩
            | im _ k b o c C hks hc hm hV => exact ⟨_, _, rfl⟩
          obtain ⟨ad, c, hu⟩ := hu
          exact fin _ (sl _ _ _ hs hu) rfl
        · cases hv
      · rename_i l g off len hx
        rw [hx] at ex
        split at hv
        · rename_i hs
          cases hv
          obtain ⟨q, hq⟩ := Option.isSome_iff_exists.1 hs.2
          obtain ⟨p, _, _, _, hcase⟩ := sl_at R hq ex
          rcases hcase with ⟨_, _, rfl, _, ad, hu⟩ | ⟨_, hu⟩
          · exact fin _ (sl _ _ _ hs.1 hu) rfl
          · exact fin _ (sl _ _ _ hs.1 hu) rfl
        · cases hv
      · cases hv
    · rename_i x y hxs
      have hargs : args = #[x, y] := Array.toList_inj.1 hxs
      subst hargs
      have ex := E x (by simp [Call.operands])
      have ey := E y (by simp [Call.operands])
      unfold mmT at H
      split at H
      · rename_i k p k' q hx hy
        rw [hx] at ex
        rw [hy] at ey
        have ex := VA_c ex
        have ey := VA_c ey
        cases H
        refine any _ (mk_c _) (fun w' => ?_) rfl
        simp [execOp, resolve, invoke, builtin, ex, ey, Builtin.min_, Builtin.min2]
      · cases H
    · rename_i x y hxs
      have hargs : args = #[x, y] := Array.toList_inj.1 hxs
      subst hargs
      have ex := E x (by simp [Call.operands])
      have ey := E y (by simp [Call.operands])
      unfold mmT at H
      split at H
      · rename_i k p k' q hx hy
        rw [hx] at ex
        rw [hy] at ey
        have ex := VA_c ex
        have ey := VA_c ey
        cases H
        refine any _ (mk_c _) (fun w' => ?_) rfl
        simp [execOp, resolve, invoke, builtin, ex, ey, Builtin.max_, Builtin.max2]
      · cases H
    · cases H
end
end Go.BL
