/- Functions that hand back one new object (or none): what they made otherwise is let go, and the new object stands right behind the old ones. Conditions: none. -/
import Derived.Test.YtjfmfcdempkpdaaAB
namespace Go.AL
open Go.RowKit
set_option linter.unusedVariables false
set_option linter.unusedSimpArgs false

/-- The location n + i is told as n. -/
def CV.mv (n i : Nat) : CV → CV
  | .c v => .c v
  | .ptr l o => .ptr (if l = n + i then n else l) o
  | .sl l k o m => .sl (if l = n + i then n else l) k o m
  | .slc l o m q => .slc (if l = n + i then n else l) o m q
  | .clo g caps => .clo g (caps.map fun l => if l = n + i then n else l)
def CV.at1 (n i : Nat) : CV → Prop
  | .c v => v.oneCell' = true
  | .ptr l _ => l = n + i ∨ l < n
  | .sl l _ _ _ => l = n + i ∨ l < n
  | .slc l _ _ _ => l = n + i ∨ l < n
  | .clo _ caps => ∀ l ∈ caps, l = n + i ∨ l < n
mutual
def AV.mv (n i : Nat) : AV → AV
  | .one x => .one (x.mv n i)
  | .agg xs => .agg (xs.map (CV.mv n i))
  | .tup xs => .tup (AV.mvs n i xs)
def AV.mvs (n i : Nat) : List AV → List AV
  | [] => []
  | x :: r => x.mv n i :: AV.mvs n i r
end
mutual
def AV.at1 (n i : Nat) : AV → Prop
  | .one x => x.at1 n i ∨ ∃ v, x = .c v
  | .agg xs => ∀ x ∈ xs, x.at1 n i
  | .tup xs => AV.at1s n i xs
def AV.at1s (n i : Nat) : List AV → Prop
  | [] => True
  | x :: r => x.at1 n i ∧ AV.at1s n i r
end
theorem loc_mv {φ : Phi} {n i l : Nat} (h : l = n + i ∨ l < n) : phiAt φ n (φ (n + i)) (if l = n + i then n else l) = φ l := by
  rcases h with rfl | h
  · rw [if_pos rfl, phiAt_at]
  · rw [if_neg (by omega), phiAt_lt φ _ h]
theorem cv_mv (φ : Phi) {n i : Nat} : ∀ {x : CV}, x.at1 n i → (x.mv n i).conc (phiAt φ n (φ (n + i))) = x.conc φ
  | .c v, _ => rfl
  | .ptr l o, h => by simp only [CV.mv, CV.conc, adr, loc_mv h]
  | .sl l k o m, h => by simp only [CV.mv, CV.conc, adr, loc_mv h]
  | .slc l o m q, h => by simp only [CV.mv, CV.conc, adr, loc_mv h]
  | .clo g caps, h => by
    simp only [CV.mv, CV.conc, List.map_map]
    congr 2
    refine List.map_congr_left fun l hl => ?_
    simp only [Function.comp, adr, loc_mv (h l hl)]
theorem cv_mv_wf {n i : Nat} : ∀ {x : CV}, x.at1 n i → (x.mv n i).wf (n + 1)
  | .c v, h => h
  | .ptr l o, h => by have h : l = n + i ∨ l < n := h; show _ < _; split <;> omega
  | .sl l k o m, h => by have h : l = n + i ∨ l < n := h; show _ < _; split <;> omega
  | .slc l o m q, h => by have h : l = n + i ∨ l < n := h; show _ < _; split <;> omega
  | .clo g caps, h => by
    intro l hl
    obtain ⟨l', hl', rfl⟩ := List.mem_map.1 hl
    have := h l' hl'
    split <;> omega
mutual
theorem av_mv (φ : Phi) {n i : Nat} : ∀ {x : AV}, x.at1 n i → (x.mv n i).conc (phiAt φ n (φ (n + i))) = x.conc φ
  | .one x, h => by
    unfold AV.at1 at h
    unfold AV.mv AV.conc
    rcases h with h | ⟨v, rfl⟩
    · exact cv_mv φ h
    · rfl
  | .agg xs, h => by
    unfold AV.at1 at h
    unfold AV.mv AV.conc
    rw [List.map_map]
    congr 2
    exact List.map_congr_left fun x hx => cv_mv φ (h x hx)
  | .tup xs, h => by
    unfold AV.at1 at h
    unfold AV.mv AV.conc
    rw [avs_mv φ h]
theorem avs_mv (φ : Phi) {n i : Nat} : ∀ {xs : List AV}, AV.at1s n i xs → AV.concs (phiAt φ n (φ (n + i))) (AV.mvs n i xs) = AV.concs φ xs
  | [], _ => by simp [AV.mvs, AV.concs]
  | x :: r, h => by
    unfold AV.at1s at h
    unfold AV.mvs AV.concs
    rw [av_mv φ h.1, avs_mv φ h.2]
end
mutual
theorem av_mv_wf {n i : Nat} : ∀ {x : AV}, x.at1 n i → (x.mv n i).wf (n + 1)
  | .one x, h => by
    unfold AV.at1 at h
    unfold AV.mv AV.wf
    rcases h with h | ⟨v, rfl⟩
    · exact .inl (cv_mv_wf h)
    · exact .inr ⟨v, rfl⟩
  | .agg xs, h => by
    unfold AV.at1 at h
    unfold AV.mv AV.wf
    intro x hx
    obtain ⟨y, hy, rfl⟩ := List.mem_map.1 hx
    exact cv_mv_wf (h y hy)
  | .tup xs, h => by
    unfold AV.at1 at h
    unfold AV.mv AV.wf
    exact avs_mv_wf h
theorem avs_mv_wf {n i : Nat} : ∀ {xs : List AV}, AV.at1s n i xs → AV.wfs (n + 1) (AV.mvs n i xs)
  | [], _ => by unfold AV.mvs AV.wfs; trivial
  | x :: r, h => by
    unfold AV.at1s at h
    unfold AV.mvs AV.wfs
    exact ⟨av_mv_wf h.1, avs_mv_wf h.2⟩
end
section
variable {base : Nat} {w0 : World} {φ : Phi} {h ext : AH} {w : World}
/-- Of what was made later one object is kept; its cells are plain. -/
theorem Rep.keep1 (R : Rep base w0 φ (h ++ ext) w) (hwf : ∀ (l : Nat) (o : AO), h[l]? = some o → ∀ x ∈ o.cs, x.wf h.length) {i t u : Nat} {full : Bool} {cs : List CV} (hi : ext[i]? = some (.own t u full cs)) (hp : pvs cs = true) :
    Rep base w0 (phiAt φ h.length (φ (h.length + i))) (h ++ [.own t u full cs]) w := by
  have hag : ∀ k, k < h.length → phiAt φ h.length (φ (h.length + i)) k = φ k := fun k hk => phiAt_lt φ _ hk
  have hL : (h ++ ext)[h.length + i]? = some (.own t u full cs) := by rw [h_at]; exact hi
  have hpc : ∀ x ∈ cs, ∃ v, x = .c v ∧ v.oneCell' = true := by
    clear hi hL
    induction cs with
    | nil => intro x hx; cases hx
    | cons y r ih =>
      intro x hx
      cases y with
      | c v =>
        simp only [pvs, Bool.and_eq_true] at hp
        rcases List.mem_cons.1 hx with rfl | hx
        · exact ⟨v, rfl, hp.1⟩
        · exact ih hp.2 x hx
      | _ => simp [pvs] at hp
  have hget : ∀ (j : Nat) (o : AO), (h ++ [AO.own t u full cs])[j]? = some o → (h[j]? = some o ∧ j < h.length) ∨ (j = h.length ∧ o = .own t u full cs) := by
    intro j o hj
    rcases Nat.lt_or_ge j h.length with hlt | hge
    · left; rw [List.getElem?_append_left hlt] at hj; exact ⟨hj, hlt⟩
    · right
      rw [List.getElem?_append_right hge] at hj
      have hz : j - h.length = 0 := by
        have := (List.getElem?_eq_some_iff.1 hj).1
        simpa using this
      rw [hz] at hj
      simp at hj
      exact ⟨by omega, hj.symm⟩
  have hold : ∀ (j : Nat) (o : AO), h[j]? = some o → (h ++ ext)[j]? = some o := fun j o hj => h_old ext hj
  refine ⟨R.below, R.hb, ?_, ?_, ?_⟩
  · intro j o hj
    rcases hget j o hj with ⟨hj, hlt⟩ | ⟨rfl, rfl⟩
    · exact (R.obj j o (hold j o hj)).move (n := h.length) (hwf j o hj) hag (hag j hlt) rfl
    · obtain ⟨g1, g2, C, fr, g3, g4, g5, g6, g7, g8, g9⟩ := R.obj _ _ hL
      refine ⟨by rw [phiAt_at]; exact g1, by rw [phiAt_at]; exact g2, C, fr, by rw [phiAt_at]; exact g3, by rw [phiAt_at]; exact g4, g5, g6, g7, g8, fun k x hk => ?_⟩
      obtain ⟨v, rfl, _⟩ := hpc x (List.mem_of_getElem? hk)
      exact g9 k _ hk
  · intro j o hj x hx
    rw [List.length_append, List.length_singleton]
    rcases hget j o hj with ⟨hj, _⟩ | ⟨rfl, rfl⟩
    · exact CV.wf_mono (Nat.le_succ _) (hwf j o hj x hx)
    · obtain ⟨v, rfl, hv⟩ := hpc x hx
      exact hv
  · intro a b oa ob ha hb hoa hob hne
    rcases hget a oa ha with ⟨ha', hal⟩ | ⟨rfl, rfl⟩ <;> rcases hget b ob hb with ⟨hb', hbl⟩ | ⟨rfl, rfl⟩
    · rw [hag a hal, hag b hbl]
      exact R.inj a b oa ob (hold a oa ha') (hold b ob hb') hoa hob hne
    · rw [hag a hal, phiAt_at]
      exact R.inj a _ oa _ (hold a oa ha') hL hoa rfl (by omega)
    · rw [hag b hbl, phiAt_at]
      exact R.inj _ b _ ob hL (hold b ob hb') rfl hob (by omega)
    · exact absurd rfl hne
end
/-- One new object is handed back. -/
def ARet1 (P : Program) (rs : List ResultVar) (h0 : AH) (K : AV → AH → Prop) (f : AF) (h : AH) : Prop :=
  ∃ vs ext i t u full cs, rsG P f h rs = some vs ∧ h = h0 ++ ext ∧ ext[i]? = some (.own t u full cs) ∧ pvs cs = true ∧ (oneOrTup vs).at1 h0.length i ∧ K ((oneOrTup vs).mv h0.length i) (h0 ++ [.own t u full cs])
section
variable {P : Program}
theorem acall_s {g : Nat} {fn : Func} {c : Code} {args : List AV} {h : AH} {K : AV → AH → Prop} (hmo : P.follows .mixedOrders = true) (hf : P.funcs[g]? = some fn) (hbody : fn.body = some c) (hB : codeB fn.ntmps c = true) (hR : fnB fn = true) (hg : hasBody P g = true) (hn : args.length ≤ fn.ntmps)
    (Qp : QT) (hno : ∀ e f h', Qp e f h' → e = .ret) (hret : ∀ base w0 φ w, Rep base w0 φ h w → ∀ f h' φ' w', Qp .ret f h' → Rep base w0 φ' h' w' → (∀ l, l < h.length → φ' l = φ l) → ∃ vs r h2 φ2, fn.results.toList.mapM (resOne P f h') = some vs ∧ (oneOrTup vs).conc φ' = r.conc φ2 ∧ K r h2 ∧ Rep base w0 φ2 h2 w' ∧ h.length ≤ h2.length ∧ (∀ l, l < h.length → φ2 l = φ l) ∧ r.wf h2.length)
    (H : awp P c Qp (frame0 args) h) : ACalls P g args h K := by
  refine ⟨hg, fun base w0 φ w R hargs => ?_⟩
  refine calls_of_wp hf hbody ?_
  have F := frame0_ok (φ := φ) (n := fn.ntmps) hn hargs
  refine wp_mono (awp_sound (m0 := h.length) (φ0 := φ) (n := fn.ntmps) hmo c hB _ _ h φ _ w H R F (Nat.le_refl _) (fun _ _ => rfl)) ?_
  have fin : ∀ a' w', St base w0 φ h.length fn.ntmps (Qp .ret) a' w' → a'.defers = [] ∧ ∃ v, (results fn a'.tmps).run P w' = .ok v w' ∧
      ∃ r h' φ', Ending.returned v = .returned (r.conc φ') ∧ K r h' ∧ Rep base w0 φ' h' w' ∧ h.length ≤ h'.length ∧ (∀ l, l < h.length → φ' l = φ l) ∧ r.wf h'.length := by
    rintro a' w' ⟨f', h', φ', hq, R', F', hm', hag'⟩
    obtain ⟨vs, r, h2, φ2, hvs, hc, hk, R2, hl2, hag2, hw2⟩ := hret base w0 φ w R f' h' φ' w' hq R' hag'
    have hres := run_res R' F' fn.results.toList vs (by simpa [fnB] using hR) hvs
    refine ⟨F'.defers, (oneOrTup vs).conc φ', ?_, r, h2, φ2, by rw [hc], hk, R2, hl2, hag2, hw2⟩
    show ((do let vs ← fn.results.mapM (resSem a'.tmps); pure (if h : vs.size = 1 then vs[0] else .tuple vs)) : Sem Value).run P w' = _
    rw [Array.mapM_eq_mapM_toList]
    simp only [Sem.run_bind, Sem.run_map, hres, Result.andThen_ok, Sem.run_pure]
    rw [← one_conc]
  intro e a' w' hq
  cases e with
  | normal => obtain ⟨f', h', _, hq, _⟩ := hq; exact absurd (hno _ _ _ hq) (by simp)
  | ret => exact fin a' w' hq
  | exit id => obtain ⟨f', h', _, hq, _⟩ := hq; exact absurd (hno _ _ _ hq) (by simp)
  | _ => exact hq.elim
/-- A contract of a function that hands back plain values, or one new object. -/
theorem acall_1 {g : Nat} {fn : Func} {c : Code} {args : List AV} {h : AH} {K : AV → AH → Prop} (rs : List ResultVar) (hmo : P.follows .mixedOrders = true) (hf : P.funcs[g]? = some fn) (hrs : fn.results.toList = rs) (hbody : fn.body = some c) (hB : (codeB fn.ntmps c && fnB fn && hasBody P g && decide (args.length ≤ fn.ntmps)) = true)
    (H : ∀ Q : QT, (∀ f h', ARetP P rs h K f h' → Q .ret f h') → (∀ f h', ARet1 P rs h K f h' → Q .ret f h') → goG P c [] Q (frame0 args) h) : ACalls P g args h K := by
  simp only [Bool.and_eq_true, decide_eq_true_eq] at hB
  have H1 := H (fun e f h' => match e with | .ret => ARetP P rs h K f h' ∨ ARet1 P rs h K f h' | _ => False) (fun f h' hh => .inl hh) (fun f h' hh => .inr hh)
  refine acall_s (K := K) hmo hf hbody hB.1.1.1 hB.1.1.2 hB.1.2 hB.2 _ (fun e f h' hq => ?_) ?_ H1
  · cases e <;> first | rfl | exact hq.elim
  intro base w0 φ w R f h' φ' w' hq R' hag
  rcases hq with hq | ⟨vs, ext, i, t, u, full, cs, hvs, rfl, hi, hp, hat, hk⟩
  · unfold ARetP at hq
    obtain ⟨vs, hvs, ⟨ext, rfl⟩, hp, hk⟩ := hq.elim
    refine ⟨vs, oneOrTup vs, h, φ', by rw [hrs]; exact hvs, rfl, hk, ?_, Nat.le_refl _, hag, plain_wf _ hp⟩
    have := R'.take h.length (by simp) (fun l o hl ho => by
      rw [List.getElem?_append_left hl] at ho
      exact R.wf l o ho)
    simpa using this
  · refine ⟨vs, _, _, phiAt φ' h.length (φ' (h.length + i)), by rw [hrs, rsG_eq]; exact hvs, (av_mv φ' hat).symm, hk, R'.keep1 (fun l o ho => R.wf l o ho) hi hp, by simp, fun l hl => by rw [phiAt_lt φ' _ hl, hag l hl], ?_⟩
    have := av_mv_wf hat
    simpa using this
/-- An object that stood before is told anew. -/
def ARetM (P : Program) (rs : List ResultVar) (h0 : AH) (K : AV → AH → Prop) (f : AF) (h : AH) : Prop :=
  ∃ vs ext l t u full cs, rsG P f h rs = some vs ∧ h = h0.set l (.own t u full cs) ++ ext ∧ pvs cs = true ∧ plainV (oneOrTup vs) = true ∧ K (oneOrTup vs) (h0.set l (.own t u full cs))
theorem pvs_wf {cs : List CV} (hp : pvs cs = true) (m : Nat) : ∀ x ∈ cs, x.wf m := by
  induction cs with
  | nil => intro x hx; cases hx
  | cons y r ih =>
    intro x hx
    cases y with
    | c v =>
      simp only [pvs, Bool.and_eq_true] at hp
      rcases List.mem_cons.1 hx with rfl | hx
      · exact hp.1
      · exact ih hp.2 x hx
    | _ => simp [pvs] at hp
/-- A contract of a function that hands back plain values, and may have told one object anew. -/
theorem acall_m {g : Nat} {fn : Func} {c : Code} {args : List AV} {h : AH} {K : AV → AH → Prop} (rs : List ResultVar) (hmo : P.follows .mixedOrders = true) (hf : P.funcs[g]? = some fn) (hrs : fn.results.toList = rs) (hbody : fn.body = some c) (hB : (codeB fn.ntmps c && fnB fn && hasBody P g && decide (args.length ≤ fn.ntmps)) = true)
    (H : ∀ Q : QT, (∀ f h', ARetP P rs h K f h' → Q .ret f h') → (∀ f h', ARetM P rs h K f h' → Q .ret f h') → goG P c [] Q (frame0 args) h) : ACalls P g args h K := by
  simp only [Bool.and_eq_true, decide_eq_true_eq] at hB
  have H1 := H (fun e f h' => match e with | .ret => ARetP P rs h K f h' ∨ ARetM P rs h K f h' | _ => False) (fun f h' hh => .inl hh) (fun f h' hh => .inr hh)
  refine acall_s (K := K) hmo hf hbody hB.1.1.1 hB.1.1.2 hB.1.2 hB.2 _ (fun e f h' hq => ?_) ?_ H1
  · cases e <;> first | rfl | exact hq.elim
  intro base w0 φ w R f h' φ' w' hq R' hag
  rcases hq with hq | ⟨vs, ext, l, t, u, full, cs, hvs, rfl, hp, hpl, hk⟩
  · unfold ARetP at hq
    obtain ⟨vs, hvs, ⟨ext, rfl⟩, hp, hk⟩ := hq.elim
    refine ⟨vs, oneOrTup vs, h, φ', by rw [hrs]; exact hvs, rfl, hk, ?_, Nat.le_refl _, hag, plain_wf _ hp⟩
    have := R'.take h.length (by simp) (fun l o hl ho => by
      rw [List.getElem?_append_left hl] at ho
      exact R.wf l o ho)
    simpa using this
  · have hln : (h.set l (.own t u full cs)).length = h.length := List.length_set
    refine ⟨vs, oneOrTup vs, h.set l (.own t u full cs), φ', by rw [hrs, rsG_eq]; exact hvs, rfl, hk, ?_, by rw [hln]; exact Nat.le_refl _, hag, plain_wf _ hpl⟩
    have := R'.take h.length (by simp) (fun j o hj ho x hx => by
      rw [List.getElem?_append_left (by rw [hln]; exact hj), List.getElem?_set] at ho
      split at ho
      · split at ho
        · cases ho; exact pvs_wf hp _ x hx
        · cases ho
      · exact R.wf j o ho x hx)
    rwa [List.take_append_of_le_length (by rw [hln]; exact Nat.le_refl _), List.take_of_length_le (by rw [hln]; exact Nat.le_refl _)] at this
theorem retM {rs : List ResultVar} {h0 : AH} {K : AV → AH → Prop} {f : AF} {vs : List AV} {l t u : Nat} {full : Bool} {cs : List CV} (ext : AH) (h1 : rsG P f (h0.set l (.own t u full cs) ++ ext) rs = some vs) (h4 : pvs cs = true) (h5 : plainV (oneOrTup vs) = true)
    (h6 : K (oneOrTup vs) (h0.set l (.own t u full cs))) : ARetM P rs h0 K f (h0.set l (.own t u full cs) ++ ext) := ⟨vs, ext, l, t, u, full, cs, h1, rfl, h4, h5, h6⟩
theorem retM0 {rs : List ResultVar} {h0 : AH} {K : AV → AH → Prop} {f : AF} {vs : List AV} {l t u : Nat} {full : Bool} {cs : List CV} (h1 : rsG P f (h0.set l (.own t u full cs)) rs = some vs) (h4 : pvs cs = true) (h5 : plainV (oneOrTup vs) = true)
    (h6 : K (oneOrTup vs) (h0.set l (.own t u full cs))) : ARetM P rs h0 K f (h0.set l (.own t u full cs)) := ⟨vs, [], l, t, u, full, cs, h1, by simp, h4, h5, h6⟩
theorem ret1 {rs : List ResultVar} {h0 ext : AH} {K : AV → AH → Prop} {f : AF} {vs : List AV} (i : Nat) {t u : Nat} {full : Bool} {cs : List CV} (h1 : rsG P f (h0 ++ ext) rs = some vs) (h3 : ext[i]? = some (.own t u full cs)) (h4 : pvs cs = true) (h5 : (oneOrTup vs).at1 h0.length i)
    (h6 : K ((oneOrTup vs).mv h0.length i) (h0 ++ [.own t u full cs])) : ARet1 P rs h0 K f (h0 ++ ext) := ⟨vs, ext, i, t, u, full, cs, h1, rfl, h3, h4, h5, h6⟩
theorem mv_c (n i : Nat) (v : Value) : CV.mv n i (.c v) = .c v := _root_.id rfl
theorem mv_sl (n i k o m : Nat) : CV.mv n i (.sl (n + i) k o m) = .sl n k o m := by simp [CV.mv]
theorem mv_sl0 (n k o m : Nat) : CV.mv n 0 (.sl n k o m) = .sl n k o m := by simp [CV.mv]
theorem mv_one (n i : Nat) (x : CV) : AV.mv n i (.one x) = .one (x.mv n i) := by simp [AV.mv]
theorem mv_agg (n i : Nat) (xs : List CV) : AV.mv n i (.agg xs) = .agg (xs.map (CV.mv n i)) := by simp [AV.mv]
theorem mv_tup (n i : Nat) (xs : List AV) : AV.mv n i (.tup xs) = .tup (AV.mvs n i xs) := by simp [AV.mv]
theorem mvs_nil (n i : Nat) : AV.mvs n i [] = [] := by simp [AV.mvs]
theorem mvs_cons (n i : Nat) (x : AV) (r : List AV) : AV.mvs n i (x :: r) = x.mv n i :: AV.mvs n i r := by simp [AV.mvs]
theorem at_int (n i : Nat) (k : IntKind) (x : Int) : CV.at1 n i (.c (.int k x)) = True := by simp [CV.at1, Value.oneCell']
theorem at_bool (n i : Nat) (b : Bool) : CV.at1 n i (.c (.bool b)) = True := by simp [CV.at1, Value.oneCell']
theorem at_str (n i : Nat) (s : ByteArray) : CV.at1 n i (.c (.string s)) = True := by simp [CV.at1, Value.oneCell']
theorem at_sl (n i k o m : Nat) : CV.at1 n i (.sl (n + i) k o m) = True := by simp [CV.at1]
theorem at_sl0 (n k o m : Nat) : CV.at1 n 0 (.sl n k o m) = True := by simp [CV.at1]
theorem at_one (n i : Nat) (x : CV) (hx : x.at1 n i) : AV.at1 n i (.one x) = True := by simp [AV.at1, hx]
theorem at_agg (n i : Nat) (xs : List CV) : AV.at1 n i (.agg xs) = ∀ x ∈ xs, x.at1 n i := by simp [AV.at1]
theorem at_tup (n i : Nat) (xs : List AV) : AV.at1 n i (.tup xs) = AV.at1s n i xs := by simp [AV.at1]
theorem ats_nil (n i : Nat) : AV.at1s n i [] = True := by simp [AV.at1s]
theorem ats_cons (n i : Nat) (x : AV) (r : List AV) : AV.at1s n i (x :: r) = (x.at1 n i ∧ AV.at1s n i r) := by simp [AV.at1s]
end
end Go.AL
