/- Arguments of a law, laid open as values by content. Conditions: none. -/
import Derived.Test.YtedkpjaojdkpcaaGreatLD
import Derived.Deep.Strs
import Derived.Deep.Slices
import Derived.SizedLaws
import Derived.Lib.SmallJoins
import Derived.ChangeShapes
import Derived.WideShapes
namespace Go.BL
open Go.RowKit Go.ChangeShapes Go.WideShapes Go.ChangeAt Go.Joins Go.Deep
set_option linter.unusedVariables false
set_option linter.unusedSimpArgs false
/-- What a law's world shows. -/
def MW (W : World) : Im := fun a v => W.cell? a = some v ∧ a.block < W.heap.size
theorem mem_weightsAll {H : Type} {P : Program} {e : TypeId} : ∀ {ds : List (DataW H)} {i : Nat} {d : DataW H}, ds[i]? = some d → ∀ n ∈ d.weights P e, n ∈ DataW.weightsAll P e ds
  | [], i, d, h, _, _ => by simp at h
  | x :: r, 0, d, h, n, hn => by
    simp at h; subst h
    rw [DataW.weightsAll]
    exact List.mem_append_left _ hn
  | x :: r, i + 1, d, h, n, hn => by
    rw [DataW.weightsAll]
    exact List.mem_append_right _ (mem_weightsAll (by simpa using h) n hn)
section
variable {H : Type} {enc0 : TypeId × Value → H} {P : Program} {W : World} {hd : Bool}
/-- Cells say a thing. -/
def SaysC (W : World) (es : List CV) (cs : List Value) : Prop := cs.length = es.length ∧ ∀ (j : Nat) (c : CV), es[j]? = some c → ∃ u, cs[j]? = some u ∧ V0 (MW W) c u
/-- An element of a row can be laid open. -/
def Elem {α : Type} (enc0 : TypeId × Value → H) (P : Program) (W : World) (hd : Bool) (e : TypeId) (enc : α → List CV) (good : α → Prop) : Prop :=
  ∀ (fuel : Nat) (cs : List Value) (x : DataW H × List MemPlace), cs.length = P.cellsOf e → DataW.trod enc0 P W 0 (fun _ => true) hd fuel e cs = some x → (∀ n ∈ x.1.weights P e, n ≤ reachBytes) → ∃ y : α, SaysC W (enc y) cs ∧ good y
theorem cell_ok {t e : TypeId} {a : Addr} {len cap : Nat} (ht : P.underlying t = some (.slice e)) (hok : Cell.okWide P W .any 0 t (.slice (some a) len cap)) : a.spot = none ∧ a.block < W.heap.size := by
  simp only [Cell.okWide, ht, Cell.ok] at hok
  obtain ⟨_, _, _, hs, row, cells, hsh, _⟩ := hok
  refine ⟨hs, ?_⟩
  unfold World.shape? at hsh
  split at hsh
  · rename_i q; exact (Array.getElem?_eq_some_iff.1 q).1
  · cases hsh
/-- A row of a law. -/
theorem open_row {α : Type} [Inhabited α] {enc : α → List CV} {good : α → Prop} {t e : TypeId} {k fuel : Nat} {v : Value} {x : DataW H × List MemPlace} (ht : P.underlying t = some (.slice e)) (hk : P.cellsOf e = k) (hek : ∀ y, (enc y).length = k) (hb : 1 ≤ P.bytesOf e)
    (hok : Cell.okWide P W .any 0 t v) (h : DataW.trod enc0 P W 0 (fun _ => true) hd fuel t [v] = some x) (hw : ∀ n ∈ x.1.weights P t, n ≤ reachBytes) (hE : Elem enc0 P W hd e enc good) :
    ∃ xs : List α, V0 (MW W) (.im (xs.map enc)) v ∧ xs.length ≤ 1000000000000000 ∧ ∀ y ∈ xs, good y := by
  rcases Deep.open_slice ht h with ⟨hcs, _⟩ | ⟨a, len, cap, m, n, D, Pl, hcs, _, hlc, hcm, hm, hx, hall⟩
  · simp at hcs
    subst hcs
    exact ⟨[], .im0 _ _, Nat.zero_le _, fun y hy => by simp at hy⟩
  · simp at hcs
    subst hcs
    have hm2 : m = cap := by simpa using hm
    subst hm2
    obtain ⟨hs, hbk⟩ := cell_ok ht hok
    obtain ⟨b, o, s⟩ := a
    simp only at hs hbk
    subst hs
    have hx1 : x.1 = .slice ((List.range len).map D) ((List.range (m - len)).map fun j => D (len + j)) := by rw [hx]
    have hwt : ∀ i, i < len → ∀ n ∈ (D i).weights P e, n ≤ reachBytes := by
      intro i hi n hn
      refine hw n ?_
      rw [hx1]
      simp only [DataW.weights, ht]
      refine List.mem_cons_of_mem _ (List.mem_append_left _ ?_)
      exact mem_weightsAll (i := i) (d := D i) (by simp [hi]) n hn
    have hln : len ≤ 1000000000000000 := by
      have h1 := hw ((len + (m - len)) * P.bytesOf e) (by rw [hx1]; simp [DataW.weights, ht])
      have hr : reachBytes ≤ 1000000000000000 := by decide
      have h2 : len * 1 ≤ (len + (m - len)) * P.bytesOf e := Nat.mul_le_mul (by omega) hb
      omega
    have hf : ∀ i : Nat, ∃ y : α, i < len → good y ∧ ∀ (j : Nat) (c : CV), (enc y)[j]? = some c → ∃ u, W.cell? ⟨b, o + (i * k + j), none⟩ = some u ∧ V0 (MW W) c u := by
      intro i
      by_cases hi : i < len
      · obtain ⟨cs', hcells, htr⟩ := hall i (by omega)
        rw [hk] at hcells
        obtain ⟨_, hl3, hcell⟩ := World.cells?_some hcells
        obtain ⟨y, ⟨hl, hsay⟩, hg⟩ := hE _ _ _ (hl3.trans hk.symm) htr (hwt i hi)
        refine ⟨y, fun _ => ⟨hg, fun j c hc => ?_⟩⟩
        obtain ⟨u, hu, hv⟩ := hsay j c hc
        have hj : j < k := by rw [← hl3]; exact (List.getElem?_eq_some_iff.1 hu).1
        have := hcell j hj
        rw [add_lit, add_lit, Nat.add_assoc] at this
        exact ⟨u, this.trans hu, hv⟩
      · exact ⟨default, fun q => absurd q hi⟩
    obtain ⟨g, hg⟩ := Classical.axiomOfChoice hf
    refine ⟨(List.range len).map g, ?_, by simpa using hln, fun y hy => ?_⟩
    · have hlen : (((List.range len).map g).map enc).length = len := by simp
      have hget : ∀ (i : Nat) (es : List CV), (((List.range len).map g).map enc)[i]? = some es → i < len ∧ es = enc (g i) := fun i es hi => by
        have hil : i < len := by rw [← hlen]; exact (List.getElem?_eq_some_iff.1 hi).1
        refine ⟨hil, ?_⟩
        rw [List.getElem?_map, List.getElem?_map, List.getElem?_range hil] at hi
        exact (Option.some.inj hi).symm
      have := V0.im (M := MW W) (((List.range len).map g).map enc) k b o m (fun i j => (W.cell? ⟨b, o + (i * k + j), none⟩).getD undef) (fun es hes => by
          obtain ⟨y, _, rfl⟩ := List.mem_map.1 hes
          exact hek y) (by rw [hlen]; exact hlc) (fun i es j c hi hj => by
          obtain ⟨hil, rfl⟩ := hget i es hi
          obtain ⟨u, hu, hv⟩ := (hg i hil).2 j c hj
          exact ⟨by rw [hu]; rfl, hbk⟩) (fun i es j c hi hj => by
          obtain ⟨hil, rfl⟩ := hget i es hi
          obtain ⟨u, hu, hv⟩ := (hg i hil).2 j c hj
          rw [hu]; exact hv)
      rw [hlen] at this
      exact this
    · obtain ⟨i, hi, rfl⟩ := List.mem_map.1 hy
      exact (hg i (by simpa using hi)).1
/-- A cell of a struct is one of its type. -/
theorem struct_cell {t : TypeId} {cs : Array Value} {ts : List TypeId} {fs : Array Field} (ht : P.underlying t = some (.struct fs)) (hts : P.cellTypes P.depth t = some ts) (hok : Value.okWide P W .any 0 t (.agg cs)) (hl : cs.size = ts.length) (i : Nat) {v : Value} {u : TypeId} (hv : cs[i]? = some v) (hu : ts[i]? = some u) : Cell.okWide P W .any 0 u v := by
  simp only [Value.okWide, ht] at hok
  obtain ⟨cs', hcs, _, ts', hts', _, hc⟩ := hok
  cases hcs
  rw [hts] at hts'
  cases hts'
  obtain ⟨u', hu', hc'⟩ := hc i v hv
  have hil : i < ts.length := (List.getElem?_eq_some_iff.1 hu).1
  rw [Nat.mod_eq_of_lt hil, hu] at hu'
  cases hu'
  exact hc'
theorem slice_ok {t e : TypeId} {v : Value} (ht : P.underlying t = some (.slice e)) (hok : Value.okWide P W .any 0 t v) : Cell.okWide P W .any 0 t v := by
  simpa only [Value.okWide, ht] using hok
/-- Whole numbers one by one. -/
theorem elem_int {k : IntKind} {e : TypeId} (he : P.underlying e = some (.int k)) (hc : P.cellsOf e = 1) : Elem enc0 P W hd e (fun n : Int => [CV.c (.int k n)]) (fun _ => True) := fun fuel cs x hl h hw => by
  rw [hc] at hl
  match cs, hl with
  | [v], _ =>
    obtain ⟨n, rfl, _⟩ := one_int he h
    exact ⟨n, ⟨rfl, fun j c hj => by
      rcases j with _ | j
      · simp at hj; subst hj; exact ⟨_, rfl, .c _ rfl⟩
      · simp at hj⟩, trivial⟩
theorem reach_le {s : ByteArray} (h : s.data.toList.length ≤ reachBytes) : s.size ≤ 1000000000000000 := by
  have hr : reachBytes ≤ 1000000000000000 := by decide
  have : s.size = s.data.toList.length := rfl
  omega
end
end Go.BL
