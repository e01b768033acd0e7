/- Disk: files put into a disk, taken out of it, cut and made safe. Conditions: none. -/
import Derived.Test.YtaahlnjldenhpaaLG
import Derived.Test.YtaahlnjldenhpaaLT
import Derived.Test.YtaahlnjldenhpaaLInsert
import Derived.Test.YtaahlnjldenhpaaLRead
import Derived.Test.YtaahlnjldenhpaaLClear
import Derived.Test.YtaahlnjldenhpaaLMark
namespace Go.Proofs.Ytaahlnjldenhpaa
open Go.BL Go.RowKit
set_option linter.unusedVariables false
set_option linter.unusedSimpArgs false
set_option maxRecDepth 100000
attribute [local go_sem] fileC diskC fileC_len
/-! ### Rows in order -/
def SortedF (fs : List File) : Prop := fs.Pairwise fun a b => a.name < b.name
theorem rows_to {fs : List File} {n i : Nat} (h : rowsTo fs n = true) (hi : i < n) : rowOk fs i = true := by
  cases hh : rowOk fs i
  · rw [rowsTo_false fs i hh n hi] at h; cases h
  · rfl
theorem rows_lt {fs : List File} (h : rowsTo fs fs.length = true) : ∀ (j i : Nat) (hj : j < fs.length) (hij : i < j), (fs[i]'(Nat.lt_trans hij hj)).name < fs[j].name
  | j + 1, i, hj, hij => by
    have h1 := rows_to h hj
    rw [rowOk_s fs j hj, Bool.and_eq_true] at h1
    have h2 := of_decide_eq_true h1.2
    rcases Nat.eq_or_lt_of_le (Nat.le_of_lt_succ hij) with rfl | hij
    · exact h2
    · exact Int.lt_trans (rows_lt h j i (by omega) hij) h2
theorem disk_rows {d : Disk} (h : diskOk d = true) : rowsTo d.files d.files.length = true := by
  simp only [diskOk, Bool.and_eq_true] at h; exact h.1.1
theorem disk_sorted {d : Disk} (h : diskOk d = true) : SortedF d.files := by
  rw [SortedF, List.pairwise_iff_getElem]
  exact fun i j hi hj hij => rows_lt (disk_rows h) j i hj hij
theorem room_bound {fs : List File} (hz : SmallF fs) : ∀ i, i ≤ fs.length → roomTo fs i ≤ 2000000000000000 * i
  | 0, _ => by simp [roomTo]
  | i + 1, hi => by
    have h1 := room_bound hz i (by omega)
    have h2 := hz _ (List.getElem_mem (show i < fs.length by omega))
    rw [roomTo_succ fs i (by omega)]
    omega
theorem disk_room {d : Disk} (hz : SmallF d.files) (h : diskOk d = true) : wrap64 (roomTo d.files d.files.length) = roomTo d.files d.files.length ∧ roomTo d.files d.files.length ≤ d.room ∧ 0 ≤ d.room ∧ d.room ≤ 60000 := by
  have h1 := disk_len h
  have h2 := room_bound hz d.files.length (Nat.le_refl _)
  have h3 := roomTo_nonneg d.files d.files.length
  have hw : wrap64 (roomTo d.files d.files.length) = roomTo d.files d.files.length := by unfold wrap64; omega
  simp only [diskOk, Bool.and_eq_true] at h
  have h4 := of_decide_eq_true h.1.2
  have h5 := of_decide_eq_true h.2
  rw [hw] at h5
  exact ⟨hw, h5, h4.1, h4.2⟩
/-! ### Folds over a row's beginning -/
def foldT {α σ : Type} (f : σ → α → σ) (s : σ) (xs : List α) (i : Nat) : σ := (xs.take i).foldl f s
theorem foldT_0 {α σ : Type} (f : σ → α → σ) (s : σ) (xs : List α) : foldT f s xs 0 = s := rfl
theorem foldT_s {α σ : Type} (f : σ → α → σ) (s : σ) (xs : List α) (i : Nat) (hi : i < xs.length) : foldT f s xs (i + 1) = f (foldT f s xs i) xs[i] := by
  rw [foldT, List.take_succ_eq_append_getElem hi, List.foldl_append]; rfl
theorem foldT_n {α σ : Type} (f : σ → α → σ) (s : σ) (xs : List α) : foldT f s xs xs.length = xs.foldl f s := by rw [foldT, List.take_length]
/-! ### One file put into its place -/
def putF (fs : List File) (f : File) : List File := fs.filter (fun g => decide (g.name < f.name)) ++ f :: fs.filter (fun g => decide (f.name < g.name))
def stepP (f : File) (s : List File × Bool) (g : File) : List File × Bool := ((if (!s.2 && decide (f.name ≤ g.name)) = true then s.1 ++ [f] else s.1) ++ (if g.name = f.name then [] else [g]), s.2 || decide (f.name ≤ g.name))
theorem stepP_len (f : File) : ∀ (xs : List File) (s : List File × Bool), (xs.foldl (stepP f) s).1.length ≤ s.1.length + 2 * xs.length
  | [], s => by simp
  | g :: r, s => by
    rw [List.foldl_cons]
    refine Nat.le_trans (stepP_len f r _) ?_
    simp only [stepP, List.length_append, List.length_cons]
    split <;> split <;> simp <;> omega
theorem foldP_len (f : File) (fs : List File) (i : Nat) : (foldT (stepP f) ([], false) fs i).1.length ≤ 2 * i := by
  have h := stepP_len f (fs.take i) ([], false)
  have h2 : (fs.take i).length ≤ i := by simp; omega
  simp only [foldT, List.length_nil, Nat.zero_add] at h ⊢
  omega
def putL (f : File) (s : List File × Bool) : List File := if s.2 = true then s.1 else s.1 ++ [f]
theorem putL_t (f : File) : ∀ (fs : List File) (out : List File), SortedF fs → (∀ g ∈ fs, f.name ≤ g.name) → fs.foldl (stepP f) (out, true) = (out ++ fs.filter (fun g => decide (f.name < g.name)), true)
  | [], out, _, _ => by simp
  | g :: r, out, hs, hm => by
    have h1 := hm g (by simp)
    rw [List.foldl_cons]
    have h2 : stepP f (out, true) g = (out ++ (if g.name = f.name then [] else [g]), true) := by simp [stepP]
    rw [h2, putL_t f r _ (List.pairwise_cons.1 hs).2 (fun x hx => hm x (by simp [hx]))]
    by_cases he : g.name = f.name
    · have : ¬ f.name < g.name := by omega
      simp [he]
    · have : f.name < g.name := by omega
      simp [he, this]
theorem putL_f (f : File) : ∀ (fs : List File) (out : List File), SortedF fs → putL f (fs.foldl (stepP f) (out, false)) = out ++ putF fs f
  | [], out, _ => by simp [putL, putF]
  | g :: r, out, hs => by
    have hs2 := List.pairwise_cons.1 hs
    rw [List.foldl_cons]
    by_cases hle : f.name ≤ g.name
    · have h2 : stepP f (out, false) g = (out ++ [f] ++ (if g.name = f.name then [] else [g]), true) := by simp [stepP, hle]
      rw [h2, putL_t f r _ hs2.2 (fun x hx => by have := hs2.1 x hx; omega)]
      have hf : (g :: r).filter (fun x => decide (x.name < f.name)) = [] := by
        rw [List.filter_eq_nil_iff]
        intro x hx
        rcases List.mem_cons.1 hx with rfl | hx
        · simp; omega
        · have := hs2.1 x hx; simp; omega
      simp only [putL, if_true, putF, hf, List.nil_append]
      by_cases he : g.name = f.name
      · have : ¬ f.name < g.name := by omega
        simp [he]
      · have : f.name < g.name := by omega
        simp [he, this]
    · have hlt : g.name < f.name := by omega
      have hne : ¬ g.name = f.name := by omega
      have hng : ¬ f.name < g.name := by omega
      have h2 : stepP f (out, false) g = (out ++ [g], false) := by simp [stepP, hle, hne]
      rw [h2, putL_f f r _ hs2.2]
      simp [putF, hlt, hng]
theorem put_fold (f : File) (fs : List File) (hs : SortedF fs) : putL f (foldT (stepP f) ([], false) fs fs.length) = putF fs f := by
  rw [foldT_n, putL_f f fs [] hs, List.nil_append]
/-! ### The specification's own -/
theorem c_l14Copy (d : Disk) (hn : d.files.length ≤ 1000000000) (K : AV → AH → Prop) (hk : K (.agg (diskC d)) []) : ACalls Try.prog 82 [.agg (diskC d)] [] K := by
  refine acall_c Try.f82.results.toList mixed Try.func82 rfl rfl (by kernel_rfl) ?_
  intro Q hQ hQO
  simp only [go_sem]
  (try simp only [go_sem]); repeat' (first | (with_reducible refine c_split (fun hb => ?_) (fun hb => ?_) <;> try simp only [go_sem, hb]) | (with_reducible refine w_split (fun hb => ?_) (fun hb => ?_) <;> try simp only [go_sem, hb]) | (with_reducible refine tw_split (fun hb => ?_) (fun hb => ?_) <;> try simp only [go_sem, hb]) | (with_reducible refine draw_at 0 3 (by with_unfolding_all rfl) [(0, true, true), (1, true, true), (3, true, false), (4, true, false), (2, false, false), (5, false, false), (6, false, false), (7, false, true)] (by kernel_rfl) ?_ <;> try simp only [go_sem]) | (fail))
  refine ap_end rfl rfl (by simp; omega) ?_
  (try simp only [go_sem]); repeat' (first | (with_reducible refine c_split (fun hb => ?_) (fun hb => ?_) <;> try simp only [go_sem, hb]) | (with_reducible refine w_split (fun hb => ?_) (fun hb => ?_) <;> try simp only [go_sem, hb]) | (with_reducible refine tw_split (fun hb => ?_) (fun hb => ?_) <;> try simp only [go_sem, hb]) | (with_reducible refine draw_at 0 3 (by with_unfolding_all rfl) [(0, true, true), (1, true, true), (3, true, false), (4, true, false), (2, false, false), (5, false, false), (6, false, false), (7, false, true)] (by kernel_rfl) ?_ <;> try simp only [go_sem]) | (with_reducible refine hQ _ _ ?_ <;> simp only [Try.f82, go_sem]))
  exact hk
theorem c_l14Refused (d : Disk) (code : Int) (hn : d.files.length ≤ 1000000000) (K : AV → AH → Prop) (hk : K (.agg (diskC (if code = 1 then ⟨0, []⟩ else d))) []) : ACalls Try.prog 65 [.agg (diskC d), (.one (.c (.int .i64 (code))))] [] K := by
  refine acall_c Try.f65.results.toList mixed Try.func65 rfl rfl (by kernel_rfl) ?_
  intro Q hQ hQO
  simp only [go_sem]
  (try simp only [go_sem]); repeat' (first | (with_reducible refine c_split (fun hb => ?_) (fun hb => ?_) <;> try simp only [go_sem, hb]) | (with_reducible refine w_split (fun hb => ?_) (fun hb => ?_) <;> try simp only [go_sem, hb]) | (refine call_c (c_l14Copy d hn _ ?_) <;> try simp only [go_sem]) | (with_reducible refine hQ _ _ ?_ <;> simp only [Try.f65, go_sem]))
  · rw [if_pos (by simpa using hb)] at hk; exact hk
  · rw [if_neg (by simpa using hb)] at hk; exact hk
def atR (d : Disk) (name : Int) : Int × Int := if diskOk d = true ∧ 0 ≤ name ∧ name ≤ 21 then (findG (fun f => f.name == name) d.files, if 0 ≤ findG (fun f => f.name == name) d.files then 0 else 2) else (-1, 1)
theorem c_l14At (d : Disk) (name : Int) (hn : d.files.length ≤ 1000000000) (K : AV → AH → Prop) (hk : K (.tup [(.one (.c (.int .i64 ((atR d name).1)))), (.one (.c (.int .i64 ((atR d name).2))))]) []) : ACalls Try.prog 64 [.agg (diskC d), (.one (.c (.int .i64 (name))))] [] K := by
  refine acall_c Try.f64.results.toList mixed Try.func64 rfl rfl (by kernel_rfl) ?_
  intro Q hQ hQO
  simp only [go_sem]
  (try simp only [go_sem]); repeat' (first | (with_reducible refine c_split (fun hb => ?_) (fun hb => ?_) <;> try simp only [go_sem, hb]) | (with_reducible refine w_split (fun hb => ?_) (fun hb => ?_) <;> try simp only [go_sem, hb]) | (refine call_c (c_spec_DiskOk d hn _ ?_) <;> try simp only [go_sem]) | (refine call_c (c_l14Name _ _ ?_) <;> try simp only [go_sem]) | (refine call_c (c_l14Find d _ hn _ ?_) <;> try simp only [go_sem]) | (with_reducible refine hQ _ _ ?_ <;> simp only [Try.f64, go_sem]))
  · rw [atR, if_neg (fun q => by simp [q.1] at hb)] at hk; exact hk
  · rw [atR, if_neg (fun q => by simp [q.2] at hb)] at hk; exact hk
  · rename_i hb1 hb2
    rw [atR, if_pos (by simp at hb1 hb2; exact ⟨hb1, hb2⟩)] at hk
    simp only at hk
    rw [if_neg (by have := of_decide_eq_true hb; omega)] at hk
    exact hk
  · rename_i hb1 hb2
    rw [atR, if_pos (by simp at hb1 hb2; exact ⟨hb1, hb2⟩)] at hk
    simp only at hk
    rw [if_pos (by have := of_decide_eq_false hb; omega)] at hk
    exact hk
theorem c_l14Less (d : Disk) (at_ : Nat) (hn : d.files.length ≤ 1000000000) (K : AV → AH → Prop) (hk : K (.agg (diskC ⟨d.room, d.files.eraseIdx at_⟩)) []) : ACalls Try.prog 91 [.agg (diskC d), (.one (.c (.int .i64 ((at_ : Int)))))] [] K := by
  refine acall_c Try.f91.results.toList mixed Try.func91 rfl rfl (by kernel_rfl) ?_
  intro Q hQ hQO
  simp only [go_sem]
  refine for_at (d.files.length) [1, 2, 4, 5] (fun i f h => f 6 = (.one (.c (.int .i64 (i)))) ∧ h = [.own 0 26 2 (some 1) [diskC d], .own 0 26 2 (some 1) [[.c (.int .i64 (0)), .nl]], .own 0 26 2 (some 1) [[.c (.int .i64 (d.room)), .sl 3 ((d.files.take i).eraseIdx at_).length 0 ((d.files.take i).eraseIdx at_).length]], .own ((d.files.take i).eraseIdx at_).length 55 3 none (((d.files.take i).eraseIdx at_).map fileC)]) (GC.step (Ghost.nlc (l := 2) rfl 0 1 rfl rfl 55 3) (GC.now ?_)) ?_
  · simp only [go_sem, nc_0, true_and]
    simp
  · rintro i f h J hi hA ⟨e6, rfl⟩ hJ
    simp only [go_sem] at hA
    simp only [go_sem, hA, e6]
    refine c_split (fun hb => ?_) (fun hb => ?_)
    rotate_left
    · simp only [go_sem, hb, hA, e6]
      obtain rfl := ge_len hb hi
      (try simp only [go_sem, hA, e6, List.take_length]); repeat' (first | (with_reducible refine c_split (fun hb => ?_) (fun hb => ?_) <;> try simp only [go_sem, hb, hA, e6, List.take_length]) | (with_reducible refine w_split (fun hb => ?_) (fun hb => ?_) <;> try simp only [go_sem, hb, hA, e6, List.take_length]) | (with_reducible refine tw_split (fun hb => ?_) (fun hb => ?_) <;> try simp only [go_sem, hb, hA, e6, List.take_length]) | (with_reducible refine draw_at 0 20 (by with_unfolding_all rfl) [(0, true, true), (1, true, true), (2, true, false), (3, true, false), (4, false, false), (5, false, false), (6, false, false), (7, false, false), (8, false, false), (9, false, true), (10, false, true)] (by kernel_rfl) ?_ <;> try simp only [go_sem, hA, e6, List.take_length]) | (with_reducible refine hQ _ _ ?_ <;> simp only [Try.f91, go_sem, hA, e6, List.take_length]))
      exact hk
    have hi := lt_len hb
    have hw := wrap_nat i (by omega)
    have hil : (i : Int) < ((d.files.length : Nat) : Int) := Int.ofNat_lt.2 hi
    have hg0 : (d.files)[i]? = some ((d.files)[i]) := List.getElem?_eq_getElem (by omega)
    simp only [go_sem, hb, hA, e6, hg0]
    try simp only [go_sem, hA, e6, hil, hg0]
    have hlen : ((d.files.take i).eraseIdx at_).length ≤ i := by
      have := List.length_eraseIdx_le (d.files.take i) at_
      simp only [List.length_take] at this
      omega
    have htk : d.files.take (i + 1) = d.files.take i ++ [d.files[i]] := List.take_succ_eq_append_getElem hi
    have hli : (d.files.take i).length = i := by simp; omega
    (try simp only [go_sem, hA, e6, hil, hg0]); repeat' (first | (with_reducible refine c_split (fun hb => ?_) (fun hb => ?_) <;> try simp only [go_sem, hb, hA, e6, hil, hg0]) | (with_reducible refine w_split (fun hb => ?_) (fun hb => ?_) <;> try simp only [go_sem, hb, hA, e6, hil, hg0]) | (with_reducible refine tw_split (fun hb => ?_) (fun hb => ?_) <;> try simp only [go_sem, hb, hA, e6, hil, hg0]) | (with_reducible refine draw_at 0 20 (by with_unfolding_all rfl) [(0, true, true), (1, true, true), (2, true, false), (3, true, false), (4, false, false), (5, false, false), (6, false, false), (7, false, false), (8, false, false), (9, false, true), (10, false, true)] (by kernel_rfl) ?_ <;> try simp only [go_sem, hA, e6, hil, hg0]) | (fail))
    · have he : (d.files.take (i + 1)).eraseIdx at_ = (d.files.take i).eraseIdx at_ ++ [d.files[i]] := by
        have hne : i ≠ at_ := fun e => by subst e; simp at hb
        rcases Nat.lt_or_ge at_ i with h | h
        · rw [htk, List.eraseIdx_append_of_lt_length (by omega)]
        · rw [List.eraseIdx_of_length_le (by simp; omega), List.eraseIdx_of_length_le (by omega), htk]
      refine ap_end rfl (by simp) (by simp; omega) ?_
      (try simp only [go_sem, hA, e6, hil, hg0]); repeat' (first | (with_reducible refine c_split (fun hb => ?_) (fun hb => ?_) <;> try simp only [go_sem, hb, hA, e6, hil, hg0]) | (with_reducible refine w_split (fun hb => ?_) (fun hb => ?_) <;> try simp only [go_sem, hb, hA, e6, hil, hg0]) | (with_reducible refine tw_split (fun hb => ?_) (fun hb => ?_) <;> try simp only [go_sem, hb, hA, e6, hil, hg0]) | (with_reducible refine draw_at 0 20 (by with_unfolding_all rfl) [(0, true, true), (1, true, true), (2, true, false), (3, true, false), (4, false, false), (5, false, false), (6, false, false), (7, false, false), (8, false, false), (9, false, true), (10, false, true)] (by kernel_rfl) ?_ <;> try simp only [go_sem, hA, e6, hil, hg0]) | (fail))
      refine gc_trim 4 (by decide) (by simp only [go_sem]) (by simp only [go_sem]) (hJ _ _ hi (by simp only [go_sem, hA, e6]) ⟨?_, ?_⟩) <;> try simp only [go_sem, hA, e6, hw, he]
    · have he : (d.files.take (i + 1)).eraseIdx at_ = (d.files.take i).eraseIdx at_ := by
        have he2 : i = at_ := Int.ofNat_inj.1 (by simpa using hb)
        subst he2
        have h0 : (d.files.take i).eraseIdx i = d.files.take i := List.eraseIdx_of_length_le (by omega)
        rw [h0, htk, List.eraseIdx_append_of_length_le (by omega), hli, Nat.sub_self]; simp
      refine gc_trim 4 (by decide) (by simp only [go_sem]) (by simp only [go_sem]) (hJ _ _ hi (by simp only [go_sem, hA, e6]) ⟨?_, ?_⟩) <;> try simp only [go_sem, hA, e6, hw, he]
theorem c_l14Put (d : Disk) (x : File) (hn : d.files.length ≤ 1000000000) (hs : SortedF d.files) (K : AV → AH → Prop) (hk : K (.agg (diskC ⟨d.room, putF d.files x⟩)) []) : ACalls Try.prog 66 [.agg (diskC d), .agg (fileC x)] [] K := by
  rw [← put_fold x d.files hs] at hk
  refine acall_c Try.f66.results.toList mixed Try.func66 rfl rfl (by kernel_rfl) ?_
  intro Q hQ hQO
  simp only [go_sem]
  refine for_at (d.files.length) [2, 3, 4, 5] (fun i f h => f 7 = (.one (.c (.int .i64 (i)))) ∧ f 6 = (.one (.c (.bool ((foldT (stepP x) ([], false) d.files i).2)))) ∧ h = [.own 0 26 2 (some 1) [diskC d], .own 0 55 3 (some 1) [fileC x], .own 0 26 2 (some 1) [[.c (.int .i64 (0)), .nl]], .own 0 26 2 (some 1) [[.c (.int .i64 (d.room)), .sl 4 (foldT (stepP x) ([], false) d.files i).1.length 0 (foldT (stepP x) ([], false) d.files i).1.length]], .own (foldT (stepP x) ([], false) d.files i).1.length 55 3 none ((foldT (stepP x) ([], false) d.files i).1.map fileC)]) (GC.step (Ghost.nlc (l := 3) rfl 0 1 rfl rfl 55 3) (GC.now ?_)) ?_
  · simp only [go_sem, nc_0, true_and]
    simp [foldT_0]
  · rintro i f h J hi hA ⟨e7, e6, rfl⟩ hJ
    simp only [go_sem] at hA
    simp only [go_sem, hA, e7, e6]
    refine c_split (fun hb => ?_) (fun hb => ?_)
    rotate_left
    · simp only [go_sem, hb, hA, e7, e6]
      obtain rfl := ge_len hb hi
      have hlen := foldP_len x d.files d.files.length
      generalize foldT (stepP x) ([], false) d.files d.files.length = s at *
      obtain ⟨out, put⟩ := s
      simp only at hlen
      cases put
      · (try simp only [go_sem, hA, e7, e6]); repeat' (first | (with_reducible refine c_split (fun hb => ?_) (fun hb => ?_) <;> try simp only [go_sem, hb, hA, e7, e6]) | (with_reducible refine w_split (fun hb => ?_) (fun hb => ?_) <;> try simp only [go_sem, hb, hA, e7, e6]) | (with_reducible refine tw_split (fun hb => ?_) (fun hb => ?_) <;> try simp only [go_sem, hb, hA, e7, e6]) | (with_reducible refine draw_at 0 18 (by with_unfolding_all rfl) [(0, false, true), (1, false, true), (2, false, true), (3, true, true), (4, true, true), (5, true, false), (6, true, true), (7, true, false), (8, true, false), (9, false, false), (10, false, false), (11, false, false), (12, false, false)] (by kernel_rfl) ?_ <;> try simp only [go_sem, hA, e7, e6]) | (with_reducible refine draw_at 0 37 (by with_unfolding_all rfl) [(0, true, true), (1, true, true), (2, true, false), (3, true, true), (4, true, false), (5, true, false), (6, false, false), (7, false, false), (8, false, false)] (by kernel_rfl) ?_ <;> try simp only [go_sem, hA, e7, e6]) | (with_reducible refine draw_at 0 46 (by with_unfolding_all rfl) [(0, true, true), (1, true, true), (2, true, false), (3, true, false), (4, false, false), (5, false, false), (6, false, false), (7, false, false), (8, false, false), (9, false, true), (10, false, true)] (by kernel_rfl) ?_ <;> try simp only [go_sem, hA, e7, e6]) | (fail))
        refine ap_end rfl (by simp) (by simp; omega) ?_
        have htk : List.take (out.length + 1) (List.map fileC (out ++ [(⟨x.name, x.safe, x.late⟩ : File)])) = List.map fileC (out ++ [(⟨x.name, x.safe, x.late⟩ : File)]) := List.take_of_length_le (by simp)
        (try simp only [go_sem, hA, e7, e6, htk]); repeat' (first | (with_reducible refine c_split (fun hb => ?_) (fun hb => ?_) <;> try simp only [go_sem, hb, hA, e7, e6, htk]) | (with_reducible refine w_split (fun hb => ?_) (fun hb => ?_) <;> try simp only [go_sem, hb, hA, e7, e6, htk]) | (with_reducible refine tw_split (fun hb => ?_) (fun hb => ?_) <;> try simp only [go_sem, hb, hA, e7, e6, htk]) | (with_reducible refine draw_at 0 18 (by with_unfolding_all rfl) [(0, false, true), (1, false, true), (2, false, true), (3, true, true), (4, true, true), (5, true, false), (6, true, true), (7, true, false), (8, true, false), (9, false, false), (10, false, false), (11, false, false), (12, false, false)] (by kernel_rfl) ?_ <;> try simp only [go_sem, hA, e7, e6, htk]) | (with_reducible refine draw_at 0 37 (by with_unfolding_all rfl) [(0, true, true), (1, true, true), (2, true, false), (3, true, true), (4, true, false), (5, true, false), (6, false, false), (7, false, false), (8, false, false)] (by kernel_rfl) ?_ <;> try simp only [go_sem, hA, e7, e6, htk]) | (with_reducible refine draw_at 0 46 (by with_unfolding_all rfl) [(0, true, true), (1, true, true), (2, true, false), (3, true, false), (4, false, false), (5, false, false), (6, false, false), (7, false, false), (8, false, false), (9, false, true), (10, false, true)] (by kernel_rfl) ?_ <;> try simp only [go_sem, hA, e7, e6, htk]) | (with_reducible refine hQ _ _ ?_ <;> simp only [Try.f66, go_sem, hA, e7, e6, htk]))
        exact hk
      · (try simp only [go_sem, hA, e7, e6]); repeat' (first | (with_reducible refine c_split (fun hb => ?_) (fun hb => ?_) <;> try simp only [go_sem, hb, hA, e7, e6]) | (with_reducible refine w_split (fun hb => ?_) (fun hb => ?_) <;> try simp only [go_sem, hb, hA, e7, e6]) | (with_reducible refine tw_split (fun hb => ?_) (fun hb => ?_) <;> try simp only [go_sem, hb, hA, e7, e6]) | (with_reducible refine draw_at 0 18 (by with_unfolding_all rfl) [(0, false, true), (1, false, true), (2, false, true), (3, true, true), (4, true, true), (5, true, false), (6, true, true), (7, true, false), (8, true, false), (9, false, false), (10, false, false), (11, false, false), (12, false, false)] (by kernel_rfl) ?_ <;> try simp only [go_sem, hA, e7, e6]) | (with_reducible refine draw_at 0 37 (by with_unfolding_all rfl) [(0, true, true), (1, true, true), (2, true, false), (3, true, true), (4, true, false), (5, true, false), (6, false, false), (7, false, false), (8, false, false)] (by kernel_rfl) ?_ <;> try simp only [go_sem, hA, e7, e6]) | (with_reducible refine draw_at 0 46 (by with_unfolding_all rfl) [(0, true, true), (1, true, true), (2, true, false), (3, true, false), (4, false, false), (5, false, false), (6, false, false), (7, false, false), (8, false, false), (9, false, true), (10, false, true)] (by kernel_rfl) ?_ <;> try simp only [go_sem, hA, e7, e6]) | (with_reducible refine hQ _ _ ?_ <;> simp only [Try.f66, go_sem, hA, e7, e6]))
        exact hk
    have hi := lt_len hb
    have hw := wrap_nat i (by omega)
    have hil : (i : Int) < ((d.files.length : Nat) : Int) := Int.ofNat_lt.2 hi
    have hg0 : (d.files)[i]? = some ((d.files)[i]) := List.getElem?_eq_getElem (by omega)
    simp only [go_sem, hb, hA, e7, e6, hg0]
    try simp only [go_sem, hA, e7, e6, hil, hg0]
    have hlen := foldP_len x d.files i
    have hst := foldT_s (stepP x) ([], false) d.files i hi
    generalize foldT (stepP x) ([], false) d.files i = s at *
    obtain ⟨out, put⟩ := s
    simp only at hlen hst
    cases put
    · (try simp only [go_sem, hA, e7, e6, hil, hg0]); repeat' (first | (with_reducible refine c_split (fun hb => ?_) (fun hb => ?_) <;> try simp only [go_sem, hb, hA, e7, e6, hil, hg0]) | (with_reducible refine w_split (fun hb => ?_) (fun hb => ?_) <;> try simp only [go_sem, hb, hA, e7, e6, hil, hg0]) | (with_reducible refine tw_split (fun hb => ?_) (fun hb => ?_) <;> try simp only [go_sem, hb, hA, e7, e6, hil, hg0]) | (with_reducible refine draw_at 0 18 (by with_unfolding_all rfl) [(0, false, true), (1, false, true), (2, false, true), (3, true, true), (4, true, true), (5, true, false), (6, true, true), (7, true, false), (8, true, false), (9, false, false), (10, false, false), (11, false, false), (12, false, false)] (by kernel_rfl) ?_ <;> try simp only [go_sem, hA, e7, e6, hil, hg0]) | (with_reducible refine draw_at 0 37 (by with_unfolding_all rfl) [(0, true, true), (1, true, true), (2, true, false), (3, true, true), (4, true, false), (5, true, false), (6, false, false), (7, false, false), (8, false, false)] (by kernel_rfl) ?_ <;> try simp only [go_sem, hA, e7, e6, hil, hg0]) | (with_reducible refine draw_at 0 46 (by with_unfolding_all rfl) [(0, true, true), (1, true, true), (2, true, false), (3, true, false), (4, false, false), (5, false, false), (6, false, false), (7, false, false), (8, false, false), (9, false, true), (10, false, true)] (by kernel_rfl) ?_ <;> try simp only [go_sem, hA, e7, e6, hil, hg0]) | (fail))
      · have h1 : x.name ≤ d.files[i].name := of_decide_eq_true hb
        refine ap_end rfl (by simp) (by simp; omega) ?_
        (try simp only [go_sem, hA, e7, e6, hil, hg0]); repeat' (first | (with_reducible refine c_split (fun hb => ?_) (fun hb => ?_) <;> try simp only [go_sem, hb, hA, e7, e6, hil, hg0]) | (with_reducible refine w_split (fun hb => ?_) (fun hb => ?_) <;> try simp only [go_sem, hb, hA, e7, e6, hil, hg0]) | (with_reducible refine tw_split (fun hb => ?_) (fun hb => ?_) <;> try simp only [go_sem, hb, hA, e7, e6, hil, hg0]) | (with_reducible refine draw_at 0 18 (by with_unfolding_all rfl) [(0, false, true), (1, false, true), (2, false, true), (3, true, true), (4, true, true), (5, true, false), (6, true, true), (7, true, false), (8, true, false), (9, false, false), (10, false, false), (11, false, false), (12, false, false)] (by kernel_rfl) ?_ <;> try simp only [go_sem, hA, e7, e6, hil, hg0]) | (with_reducible refine draw_at 0 37 (by with_unfolding_all rfl) [(0, true, true), (1, true, true), (2, true, false), (3, true, true), (4, true, false), (5, true, false), (6, false, false), (7, false, false), (8, false, false)] (by kernel_rfl) ?_ <;> try simp only [go_sem, hA, e7, e6, hil, hg0]) | (with_reducible refine draw_at 0 46 (by with_unfolding_all rfl) [(0, true, true), (1, true, true), (2, true, false), (3, true, false), (4, false, false), (5, false, false), (6, false, false), (7, false, false), (8, false, false), (9, false, true), (10, false, true)] (by kernel_rfl) ?_ <;> try simp only [go_sem, hA, e7, e6, hil, hg0]) | (fail))
        · have h2 : ¬ d.files[i].name = x.name := by simpa using hb
          have hst2 : foldT (stepP x) ([], false) d.files (i + 1) = ((out ++ [x]) ++ [d.files[i]], true) := by rw [hst]; simp [stepP, h1, h2]
          refine ap_end rfl (by simp) (by simp; omega) ?_
          (try simp only [go_sem, hA, e7, e6, hil, hg0]); repeat' (first | (with_reducible refine c_split (fun hb => ?_) (fun hb => ?_) <;> try simp only [go_sem, hb, hA, e7, e6, hil, hg0]) | (with_reducible refine w_split (fun hb => ?_) (fun hb => ?_) <;> try simp only [go_sem, hb, hA, e7, e6, hil, hg0]) | (with_reducible refine tw_split (fun hb => ?_) (fun hb => ?_) <;> try simp only [go_sem, hb, hA, e7, e6, hil, hg0]) | (with_reducible refine draw_at 0 18 (by with_unfolding_all rfl) [(0, false, true), (1, false, true), (2, false, true), (3, true, true), (4, true, true), (5, true, false), (6, true, true), (7, true, false), (8, true, false), (9, false, false), (10, false, false), (11, false, false), (12, false, false)] (by kernel_rfl) ?_ <;> try simp only [go_sem, hA, e7, e6, hil, hg0]) | (with_reducible refine draw_at 0 37 (by with_unfolding_all rfl) [(0, true, true), (1, true, true), (2, true, false), (3, true, true), (4, true, false), (5, true, false), (6, false, false), (7, false, false), (8, false, false)] (by kernel_rfl) ?_ <;> try simp only [go_sem, hA, e7, e6, hil, hg0]) | (with_reducible refine draw_at 0 46 (by with_unfolding_all rfl) [(0, true, true), (1, true, true), (2, true, false), (3, true, false), (4, false, false), (5, false, false), (6, false, false), (7, false, false), (8, false, false), (9, false, true), (10, false, true)] (by kernel_rfl) ?_ <;> try simp only [go_sem, hA, e7, e6, hil, hg0]) | (fail))
          refine gc_trim 5 (by decide) (by simp only [go_sem]) (by simp only [go_sem]) (hJ _ _ hi (by simp only [go_sem, hA, e7, e6]) ⟨?_, ?_, ?_⟩) <;> try simp only [go_sem, hA, e7, e6, hw, hst2]
        · have h2 : d.files[i].name = x.name := by simpa using hb
          have hst2 : foldT (stepP x) ([], false) d.files (i + 1) = (out ++ [x], true) := by rw [hst]; simp [stepP, h1, h2]
          refine gc_trim 5 (by decide) (by simp only [go_sem]) (by simp only [go_sem]) (hJ _ _ hi (by simp only [go_sem, hA, e7, e6]) ⟨?_, ?_, ?_⟩) <;> try simp only [go_sem, hA, e7, e6, hw, hst2]
      · rename_i hb1
        have h1 : ¬ x.name ≤ d.files[i].name := of_decide_eq_false hb1
        have h2 : ¬ d.files[i].name = x.name := by omega
        have hst2 : foldT (stepP x) ([], false) d.files (i + 1) = (out ++ [d.files[i]], false) := by rw [hst]; simp [stepP, h1, h2]
        refine ap_end rfl (by simp) (by simp; omega) ?_
        (try simp only [go_sem, hA, e7, e6, hil, hg0]); repeat' (first | (with_reducible refine c_split (fun hb => ?_) (fun hb => ?_) <;> try simp only [go_sem, hb, hA, e7, e6, hil, hg0]) | (with_reducible refine w_split (fun hb => ?_) (fun hb => ?_) <;> try simp only [go_sem, hb, hA, e7, e6, hil, hg0]) | (with_reducible refine tw_split (fun hb => ?_) (fun hb => ?_) <;> try simp only [go_sem, hb, hA, e7, e6, hil, hg0]) | (with_reducible refine draw_at 0 18 (by with_unfolding_all rfl) [(0, false, true), (1, false, true), (2, false, true), (3, true, true), (4, true, true), (5, true, false), (6, true, true), (7, true, false), (8, true, false), (9, false, false), (10, false, false), (11, false, false), (12, false, false)] (by kernel_rfl) ?_ <;> try simp only [go_sem, hA, e7, e6, hil, hg0]) | (with_reducible refine draw_at 0 37 (by with_unfolding_all rfl) [(0, true, true), (1, true, true), (2, true, false), (3, true, true), (4, true, false), (5, true, false), (6, false, false), (7, false, false), (8, false, false)] (by kernel_rfl) ?_ <;> try simp only [go_sem, hA, e7, e6, hil, hg0]) | (with_reducible refine draw_at 0 46 (by with_unfolding_all rfl) [(0, true, true), (1, true, true), (2, true, false), (3, true, false), (4, false, false), (5, false, false), (6, false, false), (7, false, false), (8, false, false), (9, false, true), (10, false, true)] (by kernel_rfl) ?_ <;> try simp only [go_sem, hA, e7, e6, hil, hg0]) | (fail))
        refine gc_trim 5 (by decide) (by simp only [go_sem]) (by simp only [go_sem]) (hJ _ _ hi (by simp only [go_sem, hA, e7, e6]) ⟨?_, ?_, ?_⟩) <;> try simp only [go_sem, hA, e7, e6, hw, hst2]
      · rename_i hb1
        have h1 : ¬ x.name ≤ d.files[i].name := of_decide_eq_false hb1
        have h2 : d.files[i].name = x.name := by simpa using hb
        omega
    · (try simp only [go_sem, hA, e7, e6, hil, hg0]); repeat' (first | (with_reducible refine c_split (fun hb => ?_) (fun hb => ?_) <;> try simp only [go_sem, hb, hA, e7, e6, hil, hg0]) | (with_reducible refine w_split (fun hb => ?_) (fun hb => ?_) <;> try simp only [go_sem, hb, hA, e7, e6, hil, hg0]) | (with_reducible refine tw_split (fun hb => ?_) (fun hb => ?_) <;> try simp only [go_sem, hb, hA, e7, e6, hil, hg0]) | (with_reducible refine draw_at 0 18 (by with_unfolding_all rfl) [(0, false, true), (1, false, true), (2, false, true), (3, true, true), (4, true, true), (5, true, false), (6, true, true), (7, true, false), (8, true, false), (9, false, false), (10, false, false), (11, false, false), (12, false, false)] (by kernel_rfl) ?_ <;> try simp only [go_sem, hA, e7, e6, hil, hg0]) | (with_reducible refine draw_at 0 37 (by with_unfolding_all rfl) [(0, true, true), (1, true, true), (2, true, false), (3, true, true), (4, true, false), (5, true, false), (6, false, false), (7, false, false), (8, false, false)] (by kernel_rfl) ?_ <;> try simp only [go_sem, hA, e7, e6, hil, hg0]) | (with_reducible refine draw_at 0 46 (by with_unfolding_all rfl) [(0, true, true), (1, true, true), (2, true, false), (3, true, false), (4, false, false), (5, false, false), (6, false, false), (7, false, false), (8, false, false), (9, false, true), (10, false, true)] (by kernel_rfl) ?_ <;> try simp only [go_sem, hA, e7, e6, hil, hg0]) | (fail))
      · have h2 : ¬ d.files[i].name = x.name := by simpa using hb
        have hst2 : foldT (stepP x) ([], false) d.files (i + 1) = (out ++ [d.files[i]], true) := by rw [hst]; simp [stepP, h2]
        refine ap_end rfl (by simp) (by simp; omega) ?_
        (try simp only [go_sem, hA, e7, e6, hil, hg0]); repeat' (first | (with_reducible refine c_split (fun hb => ?_) (fun hb => ?_) <;> try simp only [go_sem, hb, hA, e7, e6, hil, hg0]) | (with_reducible refine w_split (fun hb => ?_) (fun hb => ?_) <;> try simp only [go_sem, hb, hA, e7, e6, hil, hg0]) | (with_reducible refine tw_split (fun hb => ?_) (fun hb => ?_) <;> try simp only [go_sem, hb, hA, e7, e6, hil, hg0]) | (with_reducible refine draw_at 0 18 (by with_unfolding_all rfl) [(0, false, true), (1, false, true), (2, false, true), (3, true, true), (4, true, true), (5, true, false), (6, true, true), (7, true, false), (8, true, false), (9, false, false), (10, false, false), (11, false, false), (12, false, false)] (by kernel_rfl) ?_ <;> try simp only [go_sem, hA, e7, e6, hil, hg0]) | (with_reducible refine draw_at 0 37 (by with_unfolding_all rfl) [(0, true, true), (1, true, true), (2, true, false), (3, true, true), (4, true, false), (5, true, false), (6, false, false), (7, false, false), (8, false, false)] (by kernel_rfl) ?_ <;> try simp only [go_sem, hA, e7, e6, hil, hg0]) | (with_reducible refine draw_at 0 46 (by with_unfolding_all rfl) [(0, true, true), (1, true, true), (2, true, false), (3, true, false), (4, false, false), (5, false, false), (6, false, false), (7, false, false), (8, false, false), (9, false, true), (10, false, true)] (by kernel_rfl) ?_ <;> try simp only [go_sem, hA, e7, e6, hil, hg0]) | (fail))
        refine gc_trim 5 (by decide) (by simp only [go_sem]) (by simp only [go_sem]) (hJ _ _ hi (by simp only [go_sem, hA, e7, e6]) ⟨?_, ?_, ?_⟩) <;> try simp only [go_sem, hA, e7, e6, hw, hst2]
      · have h2 : d.files[i].name = x.name := by simpa using hb
        have hst2 : foldT (stepP x) ([], false) d.files (i + 1) = (out, true) := by rw [hst]; simp [stepP, h2]
        refine gc_trim 5 (by decide) (by simp only [go_sem]) (by simp only [go_sem]) (hJ _ _ hi (by simp only [go_sem, hA, e7, e6]) ⟨?_, ?_, ?_⟩) <;> try simp only [go_sem, hA, e7, e6, hw, hst2]
/-! ### What the specification answers -/
theorem findG_find {α : Type} (p : α → Bool) (xs : List α) : (findG p xs = -1 ∧ xs.find? p = none) ∨ ∃ (i : Nat) (hi : i < xs.length), findG p xs = i ∧ p xs[i] = true ∧ xs.find? p = some xs[i] := by
  unfold findG
  cases hf : xs.findIdx? p with
  | none =>
    rw [List.findIdx?_eq_none_iff] at hf
    exact .inl ⟨rfl, List.find?_eq_none.2 fun x hx => by simp [hf x hx]⟩
  | some i =>
    rw [List.findIdx?_eq_some_iff_getElem] at hf
    obtain ⟨hi, h1, h2⟩ := hf
    refine .inr ⟨i, hi, rfl, h1, ?_⟩
    rw [List.find?_eq_some_iff_getElem]
    exact ⟨h1, i, hi, rfl, fun j hj => by simpa using h2 j hj⟩
def addF (fs : List File) (name : Int) (s : ByteArray) : File := match fs.find? (fun f => f.name == name) with | some f => ⟨f.name, f.safe, f.late ++ s⟩ | none => ⟨name, ⟨#[]⟩, ⟨#[]⟩ ++ s⟩
def appR (d : Disk) (name : Int) (s : ByteArray) : Disk × Int := if diskOk d = true ∧ 0 ≤ name ∧ name ≤ 21 then (if d.room < roomTo d.files d.files.length + s.size then (d, 3) else (⟨d.room, putF d.files (addF d.files name s)⟩, 0)) else (⟨0, []⟩, 1)
def diskR (r : Disk × Int) : AV := .tup [.agg (diskC r.1), (.one (.c (.int .i64 (r.2))))]
theorem okN {d : Disk} {name : Int} (h1 : (!diskOk d) = false) (h2 : (!decide (0 ≤ name ∧ name ≤ 21)) = false) : diskOk d = true ∧ 0 ≤ name ∧ name ≤ 21 := by simp at h1 h2; exact ⟨h1, h2⟩
theorem noN1 {d : Disk} {name : Int} (h1 : (!diskOk d) = true) : ¬ (diskOk d = true ∧ 0 ≤ name ∧ name ≤ 21) := fun q => by simp [q.1] at h1
theorem noN2 {d : Disk} {name : Int} (h2 : (!decide (0 ≤ name ∧ name ≤ 21)) = true) : ¬ (diskOk d = true ∧ 0 ≤ name ∧ name ≤ 21) := fun q => by simp [q.2] at h2
theorem full_w {d : Disk} {s : ByteArray} (hz : SmallF d.files) (hs : s.size ≤ 1000000000000) (h : diskOk d = true) : wrap64 (d.room - wrap64 (roomTo d.files d.files.length)) = d.room - roomTo d.files d.files.length ∧ wrap64 (wrap64 (roomTo d.files d.files.length) + (s.size : Int)) = roomTo d.files d.files.length + s.size := by
  obtain ⟨h1, h2, h3, h4⟩ := disk_room hz h
  have h5 := roomTo_nonneg d.files d.files.length
  rw [h1]
  constructor <;> (unfold wrap64; omega)
theorem file_small {fs : List File} (hz : SmallF fs) {i : Nat} (hi : i < fs.length) : fs[i].safe.size ≤ 1000000000000000 ∧ fs[i].late.size ≤ 1000000000000000 := hz _ (List.getElem_mem hi)
theorem c_spec_DiskAppend (d : Disk) (name : Int) (s : ByteArray) (hn : d.files.length ≤ 1000000000) (hz : SmallF d.files) (hs : s.size ≤ 1000000000000) (K : AV → AH → Prop) (hk : K (diskR (appR d name s)) []) : ACalls Try.prog 72 [.agg (diskC d), (.one (.c (.int .i64 (name)))), (.one (.c (.string (s))))] [] K := by
  refine acall_c Try.f72.results.toList mixed Try.func72 rfl rfl (by kernel_rfl) ?_
  intro Q hQ hQO
  simp only [go_sem]
  (try simp only [go_sem]); repeat' (first | (with_reducible refine c_split (fun hb => ?_) (fun hb => ?_) <;> try simp only [go_sem, hb]) | (with_reducible refine w_split (fun hb => ?_) (fun hb => ?_) <;> try simp only [go_sem, hb]) | (with_reducible refine tw_split (fun hb => ?_) (fun hb => ?_) <;> try simp only [go_sem, hb]) | (with_reducible refine draw_at 0 21 (by with_unfolding_all rfl) [(0, true, true), (1, true, true), (2, true, true), (3, true, true), (4, false, false), (5, false, false), (6, false, true), (7, false, true), (8, false, true)] (by kernel_rfl) ?_ <;> try simp only [go_sem]) | (refine call_c (c_spec_DiskOk d hn _ ?_) <;> try simp only [go_sem]) | (refine call_c (c_l14Name _ _ ?_) <;> try simp only [go_sem]) | (refine call_c (c_l14Size d hn _ ?_) <;> try simp only [go_sem]) | (fail))
  · rw [appR, if_neg (noN1 hb)] at hk
    (try simp only [go_sem]); repeat' (first | (with_reducible refine c_split (fun hb => ?_) (fun hb => ?_) <;> try simp only [go_sem, hb]) | (with_reducible refine w_split (fun hb => ?_) (fun hb => ?_) <;> try simp only [go_sem, hb]) | (with_reducible refine tw_split (fun hb => ?_) (fun hb => ?_) <;> try simp only [go_sem, hb]) | (with_reducible refine draw_at 0 21 (by with_unfolding_all rfl) [(0, true, true), (1, true, true), (2, true, true), (3, true, true), (4, false, false), (5, false, false), (6, false, true), (7, false, true), (8, false, true)] (by kernel_rfl) ?_ <;> try simp only [go_sem]) | (with_reducible refine hQ _ _ ?_ <;> simp only [Try.f72, go_sem]))
    exact hk
  · rw [appR, if_neg (noN2 hb)] at hk
    (try simp only [go_sem]); repeat' (first | (with_reducible refine c_split (fun hb => ?_) (fun hb => ?_) <;> try simp only [go_sem, hb]) | (with_reducible refine w_split (fun hb => ?_) (fun hb => ?_) <;> try simp only [go_sem, hb]) | (with_reducible refine tw_split (fun hb => ?_) (fun hb => ?_) <;> try simp only [go_sem, hb]) | (with_reducible refine draw_at 0 21 (by with_unfolding_all rfl) [(0, true, true), (1, true, true), (2, true, true), (3, true, true), (4, false, false), (5, false, false), (6, false, true), (7, false, true), (8, false, true)] (by kernel_rfl) ?_ <;> try simp only [go_sem]) | (with_reducible refine hQ _ _ ?_ <;> simp only [Try.f72, go_sem]))
    exact hk
  all_goals rename_i hb1 hb2
  · have ok := okN hb1 hb2
    rw [appR, if_pos ok] at hk
    obtain ⟨w1, w2⟩ := full_w (s := s) hz hs ok.1
    rw [w1] at hb
    rw [if_pos (by have := of_decide_eq_true hb; omega)] at hk
    (try simp only [go_sem]); repeat' (first | (with_reducible refine c_split (fun hb => ?_) (fun hb => ?_) <;> try simp only [go_sem, hb]) | (with_reducible refine w_split (fun hb => ?_) (fun hb => ?_) <;> try simp only [go_sem, hb]) | (with_reducible refine tw_split (fun hb => ?_) (fun hb => ?_) <;> try simp only [go_sem, hb]) | (with_reducible refine draw_at 0 21 (by with_unfolding_all rfl) [(0, true, true), (1, true, true), (2, true, true), (3, true, true), (4, false, false), (5, false, false), (6, false, true), (7, false, true), (8, false, true)] (by kernel_rfl) ?_ <;> try simp only [go_sem]) | (refine call_c (c_l14Copy d hn _ ?_) <;> try simp only [go_sem]) | (with_reducible refine hQ _ _ ?_ <;> simp only [Try.f72, go_sem]))
    exact hk
  · have ok := okN hb1 hb2
    rw [appR, if_pos ok] at hk
    obtain ⟨w1, w2⟩ := full_w (s := s) hz hs ok.1
    rw [w1] at hb
    rw [if_neg (by have := of_decide_eq_false hb; omega)] at hk
    refine call_c (c_l14Find d name hn _ ?_)
    rcases findG_find (fun f => f.name == name) d.files with ⟨h1, h2⟩ | ⟨i, hi, h1, h3, h2⟩
    · rw [addF, h2] at hk
      simp only at hk
      have hsz : (ByteArray.mk #[]).size + s.size ≤ 9223372036854775807 := by show 0 + s.size ≤ _; omega
      (try simp only [go_sem, h1, Int.reduceLE, Int.reduceNeg]); repeat' (first | (with_reducible refine c_split (fun hb => ?_) (fun hb => ?_) <;> try simp only [go_sem, hb, h1, Int.reduceLE, Int.reduceNeg]) | (with_reducible refine w_split (fun hb => ?_) (fun hb => ?_) <;> try simp only [go_sem, hb, h1, Int.reduceLE, Int.reduceNeg]) | (with_reducible refine tw_split (fun hb => ?_) (fun hb => ?_) <;> try simp only [go_sem, hb, h1, Int.reduceLE, Int.reduceNeg]) | (with_reducible refine draw_at 0 21 (by with_unfolding_all rfl) [(0, true, true), (1, true, true), (2, true, true), (3, true, true), (4, false, false), (5, false, false), (6, false, true), (7, false, true), (8, false, true)] (by kernel_rfl) ?_ <;> try simp only [go_sem, h1, Int.reduceLE, Int.reduceNeg]) | (fail))
      rw [b_sadd (hs := hsz)]
      (try simp only [go_sem]); repeat' (first | (with_reducible refine c_split (fun hb => ?_) (fun hb => ?_) <;> try simp only [go_sem, hb]) | (with_reducible refine w_split (fun hb => ?_) (fun hb => ?_) <;> try simp only [go_sem, hb]) | (with_reducible refine tw_split (fun hb => ?_) (fun hb => ?_) <;> try simp only [go_sem, hb]) | (with_reducible refine draw_at 0 21 (by with_unfolding_all rfl) [(0, true, true), (1, true, true), (2, true, true), (3, true, true), (4, false, false), (5, false, false), (6, false, true), (7, false, true), (8, false, true)] (by kernel_rfl) ?_ <;> try simp only [go_sem]) | (refine call_c (c_l14Put d ⟨name, ⟨#[]⟩, (⟨#[]⟩ : ByteArray) ++ s⟩ hn (disk_sorted ok.1) _ ?_) <;> try simp only [go_sem]) | (with_reducible refine hQ _ _ ?_ <;> simp only [Try.f72, go_sem]))
      exact hk
    · rw [addF, h2] at hk
      simp only at hk
      have hg : d.files[i]? = some d.files[i] := List.getElem?_eq_getElem hi
      have hsz : d.files[i].late.size + s.size ≤ 9223372036854775807 := by have := file_small hz hi; omega
      (try simp only [go_sem, h1, hg, hsz]); repeat' (first | (with_reducible refine c_split (fun hb => ?_) (fun hb => ?_) <;> try simp only [go_sem, hb, h1, hg, hsz]) | (with_reducible refine w_split (fun hb => ?_) (fun hb => ?_) <;> try simp only [go_sem, hb, h1, hg, hsz]) | (with_reducible refine tw_split (fun hb => ?_) (fun hb => ?_) <;> try simp only [go_sem, hb, h1, hg, hsz]) | (with_reducible refine draw_at 0 21 (by with_unfolding_all rfl) [(0, true, true), (1, true, true), (2, true, true), (3, true, true), (4, false, false), (5, false, false), (6, false, true), (7, false, true), (8, false, true)] (by kernel_rfl) ?_ <;> try simp only [go_sem, h1, hg, hsz]) | (refine call_c (c_l14Put d ⟨d.files[i].name, d.files[i].safe, d.files[i].late ++ s⟩ hn (disk_sorted ok.1) _ ?_) <;> try simp only [go_sem, h1, hg, hsz]) | (with_reducible refine hQ _ _ ?_ <;> simp only [Try.f72, go_sem, h1, hg, hsz]))
      exact hk
def syncR (d : Disk) (name : Int) : Disk × Int := if diskOk d = true ∧ 0 ≤ name ∧ name ≤ 21 then (match d.files.find? (fun f => f.name == name) with | some f => (⟨d.room, putF d.files ⟨name, f.safe ++ f.late, ⟨#[]⟩⟩⟩, 0) | none => (d, 2)) else (⟨0, []⟩, 1)
theorem atR_cases (d : Disk) (name : Int) : (¬ (diskOk d = true ∧ 0 ≤ name ∧ name ≤ 21) ∧ atR d name = (-1, 1)) ∨ ((diskOk d = true ∧ 0 ≤ name ∧ name ≤ 21) ∧ ((atR d name = (-1, 2) ∧ d.files.find? (fun f => f.name == name) = none) ∨ ∃ (i : Nat) (hi : i < d.files.length), atR d name = ((i : Int), 0) ∧ d.files[i].name = name ∧ d.files.find? (fun f => f.name == name) = some d.files[i])) := by
  by_cases ok : diskOk d = true ∧ 0 ≤ name ∧ name ≤ 21
  · refine .inr ⟨ok, ?_⟩
    rw [atR, if_pos ok]
    rcases findG_find (fun f => f.name == name) d.files with ⟨h1, h2⟩ | ⟨i, hi, h1, h3, h2⟩
    · rw [h1]; exact .inl ⟨rfl, h2⟩
    · rw [h1, if_pos (by omega)]; exact .inr ⟨i, hi, rfl, by simpa using h3, h2⟩
  · exact .inl ⟨ok, by rw [atR, if_neg ok]⟩
theorem c_spec_DiskSync (d : Disk) (name : Int) (hn : d.files.length ≤ 1000000000) (hz : SmallF d.files) (K : AV → AH → Prop) (hk : K (diskR (syncR d name)) []) : ACalls Try.prog 50 [.agg (diskC d), (.one (.c (.int .i64 (name))))] [] K := by
  refine acall_c Try.f50.results.toList mixed Try.func50 rfl rfl (by kernel_rfl) ?_
  intro Q hQ hQO
  simp only [go_sem]
  refine call_c (c_l14At d name hn _ ?_)
  rcases atR_cases d name with ⟨ok, h1⟩ | ⟨ok, ⟨h1, h2⟩ | ⟨i, hi, h1, h3, h2⟩⟩
  · rw [syncR, if_neg ok] at hk
    (try simp only [go_sem, h1]); repeat' (first | (with_reducible refine c_split (fun hb => ?_) (fun hb => ?_) <;> try simp only [go_sem, hb, h1]) | (with_reducible refine w_split (fun hb => ?_) (fun hb => ?_) <;> try simp only [go_sem, hb, h1]) | (refine call_c (c_l14Refused d 1 hn _ ?_) <;> try simp only [go_sem, h1]) | (with_reducible refine hQ _ _ ?_ <;> simp only [Try.f50, go_sem, h1]))
    exact hk
  · rw [syncR, if_pos ok, h2] at hk
    simp only at hk
    (try simp only [go_sem, h1]); repeat' (first | (with_reducible refine c_split (fun hb => ?_) (fun hb => ?_) <;> try simp only [go_sem, hb, h1]) | (with_reducible refine w_split (fun hb => ?_) (fun hb => ?_) <;> try simp only [go_sem, hb, h1]) | (refine call_c (c_l14Refused d 2 hn _ ?_) <;> try simp only [go_sem, h1]) | (with_reducible refine hQ _ _ ?_ <;> simp only [Try.f50, go_sem, h1]))
    exact hk
  · rw [syncR, if_pos ok, h2] at hk
    simp only at hk
    have hg : d.files[i]? = some d.files[i] := List.getElem?_eq_getElem hi
    have hsz : d.files[i].safe.size + d.files[i].late.size ≤ 9223372036854775807 := by have := file_small hz hi; omega
    (try simp only [go_sem, h1, hg, hsz, BEq.rfl]); repeat' (first | (with_reducible refine c_split (fun hb => ?_) (fun hb => ?_) <;> try simp only [go_sem, hb, h1, hg, hsz, BEq.rfl]) | (with_reducible refine w_split (fun hb => ?_) (fun hb => ?_) <;> try simp only [go_sem, hb, h1, hg, hsz, BEq.rfl]) | (refine call_c (c_l14Put d ⟨name, d.files[i].safe ++ d.files[i].late, ⟨#[]⟩⟩ hn (disk_sorted ok.1) _ ?_) <;> try simp only [go_sem, h1, hg, hsz, BEq.rfl]) | (with_reducible refine hQ _ _ ?_ <;> simp only [Try.f50, go_sem, h1, hg, hsz, BEq.rfl]))
    exact hk
def cutR (d : Disk) (name n : Int) : Disk × Int := if diskOk d = true ∧ 0 ≤ name ∧ name ≤ 21 then (match d.files.find? (fun f => f.name == name) with | some f => (if 0 ≤ n ∧ n ≤ (f.safe.size : Int) + f.late.size then (⟨d.room, putF d.files ⟨name, (f.safe ++ f.late).extract 0 n.toNat, ⟨#[]⟩⟩⟩, 0) else (d, 2)) | none => (d, 2)) else (⟨0, []⟩, 1)
theorem c_spec_DiskCut (d : Disk) (name n : Int) (hn : d.files.length ≤ 1000000000) (hz : SmallF d.files) (K : AV → AH → Prop) (hk : K (diskR (cutR d name n)) []) : ACalls Try.prog 46 [.agg (diskC d), (.one (.c (.int .i64 (name)))), (.one (.c (.int .i64 (n))))] [] K := by
  refine acall_c Try.f46.results.toList mixed Try.func46 rfl rfl (by kernel_rfl) ?_
  intro Q hQ hQO
  simp only [go_sem]
  refine call_c (c_l14At d name hn _ ?_)
  rcases atR_cases d name with ⟨ok, h1⟩ | ⟨ok, ⟨h1, h2⟩ | ⟨i, hi, h1, h3, h2⟩⟩
  · rw [cutR, if_neg ok] at hk
    (try simp only [go_sem, h1]); repeat' (first | (with_reducible refine c_split (fun hb => ?_) (fun hb => ?_) <;> try simp only [go_sem, hb, h1]) | (with_reducible refine w_split (fun hb => ?_) (fun hb => ?_) <;> try simp only [go_sem, hb, h1]) | (with_reducible refine tw_split (fun hb => ?_) (fun hb => ?_) <;> try simp only [go_sem, hb, h1]) | (with_reducible refine draw_at 0 17 (by with_unfolding_all rfl) [(0, false, true), (1, false, true), (2, false, true), (3, true, true), (4, true, true), (5, true, true), (6, true, false), (7, true, true), (8, true, false), (9, true, false), (10, true, false), (11, true, false), (12, true, false), (13, false, false), (14, false, false), (15, false, false), (16, false, false), (17, false, false), (18, false, false), (19, false, false), (20, false, false), (21, false, false)] (by kernel_rfl) ?_ <;> try simp only [go_sem, h1]) | (with_reducible refine draw_at 0 50 (by with_unfolding_all rfl) [(0, true, true), (1, true, false), (2, true, false), (3, true, false), (4, true, false), (5, true, false), (6, true, false), (7, false, false), (8, false, false), (9, false, false), (10, false, false), (11, false, true), (12, false, true)] (by kernel_rfl) ?_ <;> try simp only [go_sem, h1]) | (refine call_c (c_l14Refused d 1 hn _ ?_) <;> try simp only [go_sem, h1]) | (with_reducible refine hQ _ _ ?_ <;> simp only [Try.f46, go_sem, h1]))
    exact hk
  · rw [cutR, if_pos ok, h2] at hk
    simp only at hk
    (try simp only [go_sem, h1]); repeat' (first | (with_reducible refine c_split (fun hb => ?_) (fun hb => ?_) <;> try simp only [go_sem, hb, h1]) | (with_reducible refine w_split (fun hb => ?_) (fun hb => ?_) <;> try simp only [go_sem, hb, h1]) | (with_reducible refine tw_split (fun hb => ?_) (fun hb => ?_) <;> try simp only [go_sem, hb, h1]) | (with_reducible refine draw_at 0 17 (by with_unfolding_all rfl) [(0, false, true), (1, false, true), (2, false, true), (3, true, true), (4, true, true), (5, true, true), (6, true, false), (7, true, true), (8, true, false), (9, true, false), (10, true, false), (11, true, false), (12, true, false), (13, false, false), (14, false, false), (15, false, false), (16, false, false), (17, false, false), (18, false, false), (19, false, false), (20, false, false), (21, false, false)] (by kernel_rfl) ?_ <;> try simp only [go_sem, h1]) | (with_reducible refine draw_at 0 50 (by with_unfolding_all rfl) [(0, true, true), (1, true, false), (2, true, false), (3, true, false), (4, true, false), (5, true, false), (6, true, false), (7, false, false), (8, false, false), (9, false, false), (10, false, false), (11, false, true), (12, false, true)] (by kernel_rfl) ?_ <;> try simp only [go_sem, h1]) | (refine call_c (c_l14Refused d 2 hn _ ?_) <;> try simp only [go_sem, h1]) | (with_reducible refine hQ _ _ ?_ <;> simp only [Try.f46, go_sem, h1]))
    exact hk
  · rw [cutR, if_pos ok, h2] at hk
    have hg : d.files[i]? = some d.files[i] := List.getElem?_eq_getElem hi
    have hfs := file_small hz hi
    have hsz : d.files[i].safe.size + d.files[i].late.size ≤ 9223372036854775807 := by omega
    have hw : wrap64 ((d.files[i].safe.size : Int) + (d.files[i].late.size : Int)) = (d.files[i].safe.size : Int) + d.files[i].late.size := by unfold wrap64; omega
    simp only at hk
    by_cases hc : 0 ≤ n ∧ n ≤ (d.files[i].safe.size : Int) + d.files[i].late.size
    · rw [if_pos hc] at hk
      have hq : decide (0 ≤ n ∧ n ≤ (d.files[i].safe.size : Int) + d.files[i].late.size) = true := decide_eq_true hc
      have hn0 := hc.1
      have hn1 : n.toNat ≤ d.files[i].safe.size + d.files[i].late.size := by omega
      (try simp only [go_sem, h1, hg, hsz, hw, BEq.rfl, hq]); repeat' (first | (with_reducible refine c_split (fun hb => ?_) (fun hb => ?_) <;> try simp only [go_sem, hb, h1, hg, hsz, hw, BEq.rfl, hq]) | (with_reducible refine w_split (fun hb => ?_) (fun hb => ?_) <;> try simp only [go_sem, hb, h1, hg, hsz, hw, BEq.rfl, hq]) | (with_reducible refine tw_split (fun hb => ?_) (fun hb => ?_) <;> try simp only [go_sem, hb, h1, hg, hsz, hw, BEq.rfl, hq]) | (with_reducible refine draw_at 0 17 (by with_unfolding_all rfl) [(0, false, true), (1, false, true), (2, false, true), (3, true, true), (4, true, true), (5, true, true), (6, true, false), (7, true, true), (8, true, false), (9, true, false), (10, true, false), (11, true, false), (12, true, false), (13, false, false), (14, false, false), (15, false, false), (16, false, false), (17, false, false), (18, false, false), (19, false, false), (20, false, false), (21, false, false)] (by kernel_rfl) ?_ <;> try simp only [go_sem, h1, hg, hsz, hw, BEq.rfl, hq]) | (with_reducible refine draw_at 0 50 (by with_unfolding_all rfl) [(0, true, true), (1, true, false), (2, true, false), (3, true, false), (4, true, false), (5, true, false), (6, true, false), (7, false, false), (8, false, false), (9, false, false), (10, false, false), (11, false, true), (12, false, true)] (by kernel_rfl) ?_ <;> try simp only [go_sem, h1, hg, hsz, hw, BEq.rfl, hq]) | (refine call_c (c_l1In _ _ _ _ ?_) <;> try simp only [go_sem, h1, hg, hsz, hw, BEq.rfl, hq]) | (fail))
      (try simp only [go_sem, h1, hg, hsz, hn0, hn1, Nat.zero_le]); repeat' (first | (with_reducible refine c_split (fun hb => ?_) (fun hb => ?_) <;> try simp only [go_sem, hb, h1, hg, hsz, hn0, hn1, Nat.zero_le]) | (with_reducible refine w_split (fun hb => ?_) (fun hb => ?_) <;> try simp only [go_sem, hb, h1, hg, hsz, hn0, hn1, Nat.zero_le]) | (with_reducible refine tw_split (fun hb => ?_) (fun hb => ?_) <;> try simp only [go_sem, hb, h1, hg, hsz, hn0, hn1, Nat.zero_le]) | (with_reducible refine draw_at 0 17 (by with_unfolding_all rfl) [(0, false, true), (1, false, true), (2, false, true), (3, true, true), (4, true, true), (5, true, true), (6, true, false), (7, true, true), (8, true, false), (9, true, false), (10, true, false), (11, true, false), (12, true, false), (13, false, false), (14, false, false), (15, false, false), (16, false, false), (17, false, false), (18, false, false), (19, false, false), (20, false, false), (21, false, false)] (by kernel_rfl) ?_ <;> try simp only [go_sem, h1, hg, hsz, hn0, hn1, Nat.zero_le]) | (with_reducible refine draw_at 0 50 (by with_unfolding_all rfl) [(0, true, true), (1, true, false), (2, true, false), (3, true, false), (4, true, false), (5, true, false), (6, true, false), (7, false, false), (8, false, false), (9, false, false), (10, false, false), (11, false, true), (12, false, true)] (by kernel_rfl) ?_ <;> try simp only [go_sem, h1, hg, hsz, hn0, hn1, Nat.zero_le]) | (refine call_c (c_l14Put d ⟨name, (d.files[i].safe ++ d.files[i].late).extract 0 n.toNat, ⟨#[]⟩⟩ hn (disk_sorted ok.1) _ ?_) <;> try simp only [go_sem, h1, hg, hsz, hn0, hn1, Nat.zero_le]) | (with_reducible refine hQ _ _ ?_ <;> simp only [Try.f46, go_sem, h1, hg, hsz, hn0, hn1, Nat.zero_le]))
      exact hk
    · rw [if_neg hc] at hk
      have hq : decide (0 ≤ n ∧ n ≤ (d.files[i].safe.size : Int) + d.files[i].late.size) = false := decide_eq_false hc
      (try simp only [go_sem, h1, hg, hsz, hw, BEq.rfl, hq]); repeat' (first | (with_reducible refine c_split (fun hb => ?_) (fun hb => ?_) <;> try simp only [go_sem, hb, h1, hg, hsz, hw, BEq.rfl, hq]) | (with_reducible refine w_split (fun hb => ?_) (fun hb => ?_) <;> try simp only [go_sem, hb, h1, hg, hsz, hw, BEq.rfl, hq]) | (with_reducible refine tw_split (fun hb => ?_) (fun hb => ?_) <;> try simp only [go_sem, hb, h1, hg, hsz, hw, BEq.rfl, hq]) | (with_reducible refine draw_at 0 17 (by with_unfolding_all rfl) [(0, false, true), (1, false, true), (2, false, true), (3, true, true), (4, true, true), (5, true, true), (6, true, false), (7, true, true), (8, true, false), (9, true, false), (10, true, false), (11, true, false), (12, true, false), (13, false, false), (14, false, false), (15, false, false), (16, false, false), (17, false, false), (18, false, false), (19, false, false), (20, false, false), (21, false, false)] (by kernel_rfl) ?_ <;> try simp only [go_sem, h1, hg, hsz, hw, BEq.rfl, hq]) | (with_reducible refine draw_at 0 50 (by with_unfolding_all rfl) [(0, true, true), (1, true, false), (2, true, false), (3, true, false), (4, true, false), (5, true, false), (6, true, false), (7, false, false), (8, false, false), (9, false, false), (10, false, false), (11, false, true), (12, false, true)] (by kernel_rfl) ?_ <;> try simp only [go_sem, h1, hg, hsz, hw, BEq.rfl, hq]) | (refine call_c (c_l1In _ _ _ _ ?_) <;> try simp only [go_sem, h1, hg, hsz, hw, BEq.rfl, hq]) | (refine call_c (c_l14Refused d 2 hn _ ?_) <;> try simp only [go_sem, h1, hg, hsz, hw, BEq.rfl, hq]) | (with_reducible refine hQ _ _ ?_ <;> simp only [Try.f46, go_sem, h1, hg, hsz, hw, BEq.rfl, hq]))
      exact hk
/-! ### The program's own -/
/-- A file is put into its place in a disk that stands at p. -/
def putPos (fs : List File) (x : File) : Nat := (fs.takeWhile (fun g => decide (g.name < x.name))).length
theorem putPos_le (fs : List File) (x : File) : putPos fs x ≤ fs.length := (List.takeWhile_prefix _).length_le
theorem takeWhile_at {α : Type} (p : α → Bool) : ∀ (xs : List α) (i : Nat) (hi : i ≤ xs.length), (∀ j (hj : j < i), p (xs[j]'(Nat.lt_of_lt_of_le hj hi)) = true) → (∀ h : i < xs.length, p xs[i] = false) → (xs.takeWhile p).length = i
  | [], 0, _, _, _ => rfl
  | x :: r, 0, _, _, h => by have := h (by simp); simp at this; simp [this]
  | x :: r, i + 1, hi, h1, h2 => by
    have h0 := h1 0 (by omega)
    simp only [List.getElem_cons_zero] at h0
    simp only [List.takeWhile_cons, h0, if_true, List.length_cons]
    rw [takeWhile_at p r i (by simpa using hi) (fun j hj => by have := h1 (j + 1) (by omega); simpa using this) (fun h => by have := h2 (by simpa using h); simpa using this)]
theorem low_s {xs : List File} {x : File} {i : Nat} (h : ∀ j (hj : j < xs.length), j < i → xs[j].name < x.name) (hi : i < xs.length) (h2 : xs[i].name < x.name) : ∀ j (hj : j < xs.length), j < i + 1 → xs[j].name < x.name := fun j hj hji => by
  rcases Nat.lt_or_ge j i with q | q
  · exact h j hj q
  · have e : j = i := by omega
    subst e; exact h2
theorem c_put (room : Int) (xs : List File) (x : File) (p l g : Nat) (cap : Option Nat) (h0 : AH) (hp : h0[p]? = some (.own 0 26 2 (some 1) [[.c (.int .i64 (room)), .sl l g 0 xs.length]])) (hl : h0[l]? = some (.own g 55 3 cap (xs.map fileC))) (hn : xs.length ≤ 1000000000)
    (K : AV → AH → Prop) (hk : ∀ g', K (.tup []) ((h0.set l (.own g' 55 3 none ((insAt xs (putPos xs x) x).map fileC))).set p (.own 0 26 2 (some 1) [[.c (.int .i64 (room)), .sl l g' 0 (xs.length + 1)]]))) : ACalls Try.prog 75 [.one (.pt p 0 0 0), .agg (fileC x)] h0 K := by
  have hpl : p ≠ l := fun e => by subst e; rw [hp] at hl; simp at hl
  have hlt := (List.getElem?_eq_some_iff.1 hl).1
  have hltp := (List.getElem?_eq_some_iff.1 hp).1
  have hpo : ∀ a : List AO, (h0 ++ a)[p]? = some (.own 0 26 2 (some 1) [[.c (.int .i64 (room)), .sl l g 0 xs.length]]) := fun a => h_old a hp
  have hlo : ∀ a : List AO, (h0 ++ a)[l]? = some (.own g 55 3 cap (xs.map fileC)) := fun a => h_old a hl
  have hnw : ∀ a : AO, (h0 ++ [a])[h0.length]? = some a := fun a => by simp
  have hsl : ∀ (o : AO) (a : List AO), (h0 ++ a).set l o = h0.set l o ++ a := fun o a => List.set_append_left _ _ hlt
  have hgp : ∀ (o : AO) (a : List AO), (h0.set l o ++ a)[p]? = some (.own 0 26 2 (some 1) [[.c (.int .i64 (room)), .sl l g 0 xs.length]]) := fun o a => by rw [List.getElem?_append_left (by simpa using hltp), List.getElem?_set_ne (Ne.symm hpl)]; exact hp
  have hsp : ∀ (o o' : AO) (a : List AO), (h0.set l o ++ a).set p o' = (h0.set l o).set p o' ++ a := fun o o' a => List.set_append_left _ _ (by simpa using hltp)
  refine acall_n Try.f75.results.toList mixed Try.func75 rfl rfl (by kernel_rfl) ?_
  intro hwf Q hQ
  simp only [go_sem, hpo, hlo, hnw]
  refine while_at (α := Nat) (fun i => xs.length - i) [0, 3] (fun i f h => f 4 = (.one (.c (.int .i64 ((i : Int))))) ∧ h = h0 ++ [.own 0 55 3 (some 1) [fileC x]] ∧ i ≤ xs.length ∧ ∀ j (hj : j < xs.length), j < i → xs[j].name < x.name) 0 (GC.now ?_) ?_
  · simp only [go_sem, nc_0, true_and, hpo, hlo, hnw]
    simp
  · rintro i f h J hA ⟨e4, rfl, hP⟩ hJ
    simp only [go_sem, hpo, hlo, hnw] at hA
    try dsimp only at hJ
    simp only [go_sem, hA, e4, hpo, hlo, hnw]
    obtain ⟨hi, hlow⟩ := hP
    (try simp only [go_sem, hA, e4, hpo, hlo, hnw]); repeat' (first | (with_reducible refine c_split (fun hb => ?_) (fun hb => ?_) <;> try simp only [go_sem, hb, hA, e4, hpo, hlo, hnw]) | (with_reducible refine w_split (fun hb => ?_) (fun hb => ?_) <;> try simp only [go_sem, hb, hA, e4, hpo, hlo, hnw]) | (with_reducible refine tw_split (fun hb => ?_) (fun hb => ?_) <;> try simp only [go_sem, hb, hA, e4, hpo, hlo, hnw]) | (with_reducible refine draw_at 0 5 (by with_unfolding_all rfl) [(0, true, true), (1, false, true), (2, false, true), (3, false, true), (4, false, true), (5, false, true), (6, false, true), (7, false, true), (8, true, true), (9, true, true), (10, true, true), (11, true, true), (12, true, false), (13, true, true), (14, true, false), (15, true, false), (16, false, false), (17, false, false), (18, false, false), (19, false, false)] (by kernel_rfl) ?_ <;> try simp only [go_sem, hA, e4, hpo, hlo, hnw]) | (with_reducible refine draw_at 0 27 (by with_unfolding_all rfl) [(0, true, true), (1, true, true), (2, true, true), (3, true, true), (4, true, true), (5, true, false), (6, false, false), (7, false, false), (8, false, true), (9, false, true), (10, false, true), (11, false, true)] (by kernel_rfl) ?_ <;> try simp only [go_sem, hA, e4, hpo, hlo, hnw]) | (fail))
    · have hi2 := lt_len hb
      have hil : (i : Int) < (xs.length : Int) := Int.ofNat_lt.2 hi2
      have hg : xs[i]? = some xs[i] := List.getElem?_eq_getElem hi2
      have hw := wrap_nat i (by omega)
      (try simp only [go_sem, hA, e4, hpo, hlo, hnw, hil, hg]); repeat' (first | (with_reducible refine c_split (fun hb => ?_) (fun hb => ?_) <;> try simp only [go_sem, hb, hA, e4, hpo, hlo, hnw, hil, hg]) | (with_reducible refine w_split (fun hb => ?_) (fun hb => ?_) <;> try simp only [go_sem, hb, hA, e4, hpo, hlo, hnw, hil, hg]) | (with_reducible refine tw_split (fun hb => ?_) (fun hb => ?_) <;> try simp only [go_sem, hb, hA, e4, hpo, hlo, hnw, hil, hg]) | (with_reducible refine draw_at 0 5 (by with_unfolding_all rfl) [(0, true, true), (1, false, true), (2, false, true), (3, false, true), (4, false, true), (5, false, true), (6, false, true), (7, false, true), (8, true, true), (9, true, true), (10, true, true), (11, true, true), (12, true, false), (13, true, true), (14, true, false), (15, true, false), (16, false, false), (17, false, false), (18, false, false), (19, false, false)] (by kernel_rfl) ?_ <;> try simp only [go_sem, hA, e4, hpo, hlo, hnw, hil, hg]) | (with_reducible refine draw_at 0 27 (by with_unfolding_all rfl) [(0, true, true), (1, true, true), (2, true, true), (3, true, true), (4, true, true), (5, true, false), (6, false, false), (7, false, false), (8, false, true), (9, false, true), (10, false, true), (11, false, true)] (by kernel_rfl) ?_ <;> try simp only [go_sem, hA, e4, hpo, hlo, hnw, hil, hg]) | (fail))
      · have hlt2 : xs[i].name < x.name := of_decide_eq_true (by assumption)
        refine GC.now (hJ (i + 1) _ _ (by omega) (by simp only [go_sem, hA, e4, hpo, hlo, hnw]) ⟨?_, ?_, ?_⟩) <;> try simp only [go_sem, hA, e4, hpo, hlo, hnw, hw]
        exact ⟨by omega, low_s hlow hi2 hlt2⟩
      · have hpp : putPos xs x = i := takeWhile_at _ xs i hi (fun j hj => decide_eq_true (hlow j (by omega) hj)) (fun _ => by assumption)
        subst hpp
        have hii : putPos xs x ≤ xs.length := hi
        have hvh : (h0 ++ [AO.own 0 55 3 (some 1) [fileC x], AO.own 0 55 3 (some 1) [fileC x]])[h0.length + 1]? = some (.own 0 55 3 (some 1) [fileC x]) := by rw [List.getElem?_append_right (by omega)]; simp
        (try simp only [go_sem, hA, e4, hpo, hlo, hnw, hpo, hlo, hnw]); repeat' (first | (with_reducible refine c_split (fun hb => ?_) (fun hb => ?_) <;> try simp only [go_sem, hb, hA, e4, hpo, hlo, hnw, hpo, hlo, hnw]) | (with_reducible refine w_split (fun hb => ?_) (fun hb => ?_) <;> try simp only [go_sem, hb, hA, e4, hpo, hlo, hnw, hpo, hlo, hnw]) | (with_reducible refine tw_split (fun hb => ?_) (fun hb => ?_) <;> try simp only [go_sem, hb, hA, e4, hpo, hlo, hnw, hpo, hlo, hnw]) | (with_reducible refine draw_at 0 5 (by with_unfolding_all rfl) [(0, true, true), (1, false, true), (2, false, true), (3, false, true), (4, false, true), (5, false, true), (6, false, true), (7, false, true), (8, true, true), (9, true, true), (10, true, true), (11, true, true), (12, true, false), (13, true, true), (14, true, false), (15, true, false), (16, false, false), (17, false, false), (18, false, false), (19, false, false)] (by kernel_rfl) ?_ <;> try simp only [go_sem, hA, e4, hpo, hlo, hnw, hpo, hlo, hnw]) | (with_reducible refine draw_at 0 27 (by with_unfolding_all rfl) [(0, true, true), (1, true, true), (2, true, true), (3, true, true), (4, true, true), (5, true, false), (6, false, false), (7, false, false), (8, false, true), (9, false, true), (10, false, true), (11, false, true)] (by kernel_rfl) ?_ <;> try simp only [go_sem, hA, e4, hpo, hlo, hnw, hpo, hlo, hnw]) | (fail))
        (try simp only [go_sem, hA, e4, hpo, hlo, hnw, hpo, hlo, hnw]); repeat' (first | (with_reducible refine c_split (fun hb => ?_) (fun hb => ?_) <;> try simp only [go_sem, hb, hA, e4, hpo, hlo, hnw, hpo, hlo, hnw]) | (with_reducible refine w_split (fun hb => ?_) (fun hb => ?_) <;> try simp only [go_sem, hb, hA, e4, hpo, hlo, hnw, hpo, hlo, hnw]) | (with_reducible refine tw_split (fun hb => ?_) (fun hb => ?_) <;> try simp only [go_sem, hb, hA, e4, hpo, hlo, hnw, hpo, hlo, hnw]) | (with_reducible refine draw_at 0 5 (by with_unfolding_all rfl) [(0, true, true), (1, false, true), (2, false, true), (3, false, true), (4, false, true), (5, false, true), (6, false, true), (7, false, true), (8, true, true), (9, true, true), (10, true, true), (11, true, true), (12, true, false), (13, true, true), (14, true, false), (15, true, false), (16, false, false), (17, false, false), (18, false, false), (19, false, false)] (by kernel_rfl) ?_ <;> try simp only [go_sem, hA, e4, hpo, hlo, hnw, hpo, hlo, hnw]) | (with_reducible refine draw_at 0 27 (by with_unfolding_all rfl) [(0, true, true), (1, true, true), (2, true, true), (3, true, true), (4, true, true), (5, true, false), (6, false, false), (7, false, false), (8, false, true), (9, false, true), (10, false, true), (11, false, true)] (by kernel_rfl) ?_ <;> try simp only [go_sem, hA, e4, hpo, hlo, hnw, hpo, hlo, hnw]) | (refine call_h (c_Insert xs x (putPos xs x) l g (h0.length + 1) 0 cap (some 1) _ (hlo _) hvh (by omega) hii hn _ (fun g' => ?_)) <;> try simp only [go_sem, hA, e4, hpo, hlo, hnw, hpo, hlo, hnw]) | (fail))
        (try simp only [go_sem, hsl, hgp, hsp]); repeat' (first | (with_reducible refine c_split (fun hb => ?_) (fun hb => ?_) <;> try simp only [go_sem, hb, hsl, hgp, hsp]) | (with_reducible refine w_split (fun hb => ?_) (fun hb => ?_) <;> try simp only [go_sem, hb, hsl, hgp, hsp]) | (with_reducible refine tw_split (fun hb => ?_) (fun hb => ?_) <;> try simp only [go_sem, hb, hsl, hgp, hsp]) | (with_reducible refine draw_at 0 5 (by with_unfolding_all rfl) [(0, true, true), (1, false, true), (2, false, true), (3, false, true), (4, false, true), (5, false, true), (6, false, true), (7, false, true), (8, true, true), (9, true, true), (10, true, true), (11, true, true), (12, true, false), (13, true, true), (14, true, false), (15, true, false), (16, false, false), (17, false, false), (18, false, false), (19, false, false)] (by kernel_rfl) ?_ <;> try simp only [go_sem, hsl, hgp, hsp]) | (with_reducible refine draw_at 0 27 (by with_unfolding_all rfl) [(0, true, true), (1, true, true), (2, true, true), (3, true, true), (4, true, true), (5, true, false), (6, false, false), (7, false, false), (8, false, true), (9, false, true), (10, false, true), (11, false, true)] (by kernel_rfl) ?_ <;> try simp only [go_sem, hsl, hgp, hsp]) | (fail))
        refine hQ ((h0.set l (.own g' 55 3 none ((insAt xs (putPos xs x) x).map fileC))).set p (.own 0 26 2 (some 1) [[.c (.int .i64 (room)), .sl l g' 0 (xs.length + 1)]])) _ _ ?_; refine GC.now (ret_m (by simp only [go_sem, Try.f75, hlt]; exact _root_.id rfl) (by simp only [go_sem]) (by simp) (by first | exact hwf | exact wf_set hwf (by simp only [go_sem, hlt]) | exact wf_set2 hwf (by simp only [go_sem, hlt]) (by simp only [go_sem, hlt]) | (simp only [go_sem]; done)) (by first | exact ⟨_, _root_.id rfl⟩ | exact ⟨[], (List.append_nil _).symm⟩) ?_) <;> simp only [go_sem, hlt]
        exact hk _
    · have hpp : putPos xs x = i := takeWhile_at _ xs i hi (fun j hj => decide_eq_true (hlow j (by omega) hj)) (fun h => by have := of_decide_eq_false hb; omega)
      subst hpp
      have hii : putPos xs x ≤ xs.length := hi
      have hvh : (h0 ++ [AO.own 0 55 3 (some 1) [fileC x], AO.own 0 55 3 (some 1) [fileC x]])[h0.length + 1]? = some (.own 0 55 3 (some 1) [fileC x]) := by rw [List.getElem?_append_right (by omega)]; simp
      (try simp only [go_sem, hA, e4, hpo, hlo, hnw, hpo, hlo, hnw]); repeat' (first | (with_reducible refine c_split (fun hb => ?_) (fun hb => ?_) <;> try simp only [go_sem, hb, hA, e4, hpo, hlo, hnw, hpo, hlo, hnw]) | (with_reducible refine w_split (fun hb => ?_) (fun hb => ?_) <;> try simp only [go_sem, hb, hA, e4, hpo, hlo, hnw, hpo, hlo, hnw]) | (with_reducible refine tw_split (fun hb => ?_) (fun hb => ?_) <;> try simp only [go_sem, hb, hA, e4, hpo, hlo, hnw, hpo, hlo, hnw]) | (with_reducible refine draw_at 0 5 (by with_unfolding_all rfl) [(0, true, true), (1, false, true), (2, false, true), (3, false, true), (4, false, true), (5, false, true), (6, false, true), (7, false, true), (8, true, true), (9, true, true), (10, true, true), (11, true, true), (12, true, false), (13, true, true), (14, true, false), (15, true, false), (16, false, false), (17, false, false), (18, false, false), (19, false, false)] (by kernel_rfl) ?_ <;> try simp only [go_sem, hA, e4, hpo, hlo, hnw, hpo, hlo, hnw]) | (with_reducible refine draw_at 0 27 (by with_unfolding_all rfl) [(0, true, true), (1, true, true), (2, true, true), (3, true, true), (4, true, true), (5, true, false), (6, false, false), (7, false, false), (8, false, true), (9, false, true), (10, false, true), (11, false, true)] (by kernel_rfl) ?_ <;> try simp only [go_sem, hA, e4, hpo, hlo, hnw, hpo, hlo, hnw]) | (fail))
      (try simp only [go_sem, hA, e4, hpo, hlo, hnw, hpo, hlo, hnw]); repeat' (first | (with_reducible refine c_split (fun hb => ?_) (fun hb => ?_) <;> try simp only [go_sem, hb, hA, e4, hpo, hlo, hnw, hpo, hlo, hnw]) | (with_reducible refine w_split (fun hb => ?_) (fun hb => ?_) <;> try simp only [go_sem, hb, hA, e4, hpo, hlo, hnw, hpo, hlo, hnw]) | (with_reducible refine tw_split (fun hb => ?_) (fun hb => ?_) <;> try simp only [go_sem, hb, hA, e4, hpo, hlo, hnw, hpo, hlo, hnw]) | (with_reducible refine draw_at 0 5 (by with_unfolding_all rfl) [(0, true, true), (1, false, true), (2, false, true), (3, false, true), (4, false, true), (5, false, true), (6, false, true), (7, false, true), (8, true, true), (9, true, true), (10, true, true), (11, true, true), (12, true, false), (13, true, true), (14, true, false), (15, true, false), (16, false, false), (17, false, false), (18, false, false), (19, false, false)] (by kernel_rfl) ?_ <;> try simp only [go_sem, hA, e4, hpo, hlo, hnw, hpo, hlo, hnw]) | (with_reducible refine draw_at 0 27 (by with_unfolding_all rfl) [(0, true, true), (1, true, true), (2, true, true), (3, true, true), (4, true, true), (5, true, false), (6, false, false), (7, false, false), (8, false, true), (9, false, true), (10, false, true), (11, false, true)] (by kernel_rfl) ?_ <;> try simp only [go_sem, hA, e4, hpo, hlo, hnw, hpo, hlo, hnw]) | (refine call_h (c_Insert xs x (putPos xs x) l g (h0.length + 1) 0 cap (some 1) _ (hlo _) hvh (by omega) hii hn _ (fun g' => ?_)) <;> try simp only [go_sem, hA, e4, hpo, hlo, hnw, hpo, hlo, hnw]) | (fail))
      (try simp only [go_sem, hsl, hgp, hsp]); repeat' (first | (with_reducible refine c_split (fun hb => ?_) (fun hb => ?_) <;> try simp only [go_sem, hb, hsl, hgp, hsp]) | (with_reducible refine w_split (fun hb => ?_) (fun hb => ?_) <;> try simp only [go_sem, hb, hsl, hgp, hsp]) | (with_reducible refine tw_split (fun hb => ?_) (fun hb => ?_) <;> try simp only [go_sem, hb, hsl, hgp, hsp]) | (with_reducible refine draw_at 0 5 (by with_unfolding_all rfl) [(0, true, true), (1, false, true), (2, false, true), (3, false, true), (4, false, true), (5, false, true), (6, false, true), (7, false, true), (8, true, true), (9, true, true), (10, true, true), (11, true, true), (12, true, false), (13, true, true), (14, true, false), (15, true, false), (16, false, false), (17, false, false), (18, false, false), (19, false, false)] (by kernel_rfl) ?_ <;> try simp only [go_sem, hsl, hgp, hsp]) | (with_reducible refine draw_at 0 27 (by with_unfolding_all rfl) [(0, true, true), (1, true, true), (2, true, true), (3, true, true), (4, true, true), (5, true, false), (6, false, false), (7, false, false), (8, false, true), (9, false, true), (10, false, true), (11, false, true)] (by kernel_rfl) ?_ <;> try simp only [go_sem, hsl, hgp, hsp]) | (fail))
      refine hQ ((h0.set l (.own g' 55 3 none ((insAt xs (putPos xs x) x).map fileC))).set p (.own 0 26 2 (some 1) [[.c (.int .i64 (room)), .sl l g' 0 (xs.length + 1)]])) _ _ ?_; refine GC.now (ret_m (by simp only [go_sem, Try.f75, hlt]; exact _root_.id rfl) (by simp only [go_sem]) (by simp) (by first | exact hwf | exact wf_set hwf (by simp only [go_sem, hlt]) | exact wf_set2 hwf (by simp only [go_sem, hlt]) (by simp only [go_sem, hlt]) | (simp only [go_sem]; done)) (by first | exact ⟨_, _root_.id rfl⟩ | exact ⟨[], (List.append_nil _).symm⟩) ?_) <;> simp only [go_sem, hlt]
      exact hk _
def lessF (fs : List File) (name : Int) : List File := fs.filter fun f => !(f.name == name)
theorem putF_cons_lt {g : File} {r : List File} {x : File} (h : g.name < x.name) : putF (g :: r) x = g :: putF r x := by
  have : ¬ x.name < g.name := by omega
  simp [putF, h, this]
theorem putF_head {g : File} {r : List File} {x : File} (hs : SortedF (g :: r)) (h : x.name ≤ g.name) : putF (g :: r) x = x :: (if g.name = x.name then r else g :: r) := by
  have hs2 := List.pairwise_cons.1 hs
  have h1 : (g :: r).filter (fun y => decide (y.name < x.name)) = [] := by
    rw [List.filter_eq_nil_iff]
    intro y hy
    rcases List.mem_cons.1 hy with rfl | hy
    · simp; omega
    · have := hs2.1 y hy; simp; omega
  have h2 : r.filter (fun y => decide (x.name < y.name)) = r := by
    rw [List.filter_eq_self]
    intro y hy
    have := hs2.1 y hy; simp; omega
  rw [putF, h1, List.nil_append, List.filter_cons, h2]
  by_cases he : g.name = x.name
  · rw [if_pos he, if_neg (by simp; omega)]
  · rw [if_neg he, if_pos (by simp; omega)]
theorem putF_absent (x : File) : ∀ (fs : List File), SortedF fs → (∀ g ∈ fs, g.name ≠ x.name) → insAt fs (putPos fs x) x = putF fs x
  | [], _, _ => by simp [insAt, putF, putPos]
  | g :: r, hs, h => by
    have hs2 := List.pairwise_cons.1 hs
    by_cases hlt : g.name < x.name
    · have hp : putPos (g :: r) x = putPos r x + 1 := by simp [putPos, hlt]
      have hr := putF_absent x r hs2.2 (fun y hy => h y (by simp [hy]))
      rw [putF_cons_lt hlt, hp, ← hr]
      simp [insAt]
    · have hne := h g (by simp)
      have hp : putPos (g :: r) x = 0 := by simp [putPos, hlt]
      rw [hp, putF_head hs (by omega), if_neg hne]
      rfl
theorem putF_set (x : File) : ∀ (fs : List File) (i : Nat) (hi : i < fs.length), SortedF fs → fs[i].name = x.name → fs.set i x = putF fs x
  | g :: r, 0, _, hs, h => by
    simp only [List.getElem_cons_zero] at h
    rw [putF_head hs (by omega), if_pos h]; rfl
  | g :: r, i + 1, hi, hs, h => by
    have hs2 := List.pairwise_cons.1 hs
    simp only [List.getElem_cons_succ] at h
    have hi' : i < r.length := by simpa using hi
    have := hs2.1 r[i] (List.getElem_mem hi')
    rw [putF_cons_lt (by omega), ← putF_set x r i hi' hs2.2 h]; rfl
theorem insAt_get {α : Type} (xs : List α) (i : Nat) (x : α) (hi : i ≤ xs.length) : (insAt xs i x)[i]? = some x := by
  rw [insAt, List.getElem?_append_right (by simp; omega)]
  rw [show i - (xs.take i).length = 0 by simp; omega]; rfl
theorem insAt_lt {α : Type} (xs : List α) (i : Nat) (x : α) (hi : i ≤ xs.length) (j : Nat) (hj : j < i) : (insAt xs i x)[j]? = xs[j]? := by
  rw [insAt, List.getElem?_append_left (by simp; omega), List.getElem?_take, if_pos hj]
theorem insAt_set {α : Type} (xs : List α) (i : Nat) (x y : α) (hi : i ≤ xs.length) : (insAt xs i x).set i y = insAt xs i y := by
  rw [insAt, List.set_append_right _ _ (by simp; omega), insAt]
  rw [show i - (xs.take i).length = 0 by simp; omega]; rfl
theorem findG_ins (xs : List File) (i : Nat) (x : File) (hi : i ≤ xs.length) (h : ∀ g ∈ xs, g.name ≠ x.name) : findG (fun f => f.name == x.name) (insAt xs i x) = i := by
  have hl := insAt_len xs i x hi
  have hil : i < (insAt xs i x).length := by omega
  refine findG_at hil (fun j hj => ?_) ?_
  · have h1 := insAt_lt xs i x hi j hj
    have hjl : j < xs.length := by omega
    rw [List.getElem?_eq_getElem (by omega), List.getElem?_eq_getElem hjl] at h1
    rw [Option.some.inj h1]
    simpa using h _ (List.getElem_mem hjl)
  · have h1 := insAt_get xs i x hi
    rw [List.getElem?_eq_getElem hil] at h1
    rw [Option.some.inj h1]; simp
theorem find_none {fs : List File} {name : Int} (h : fs.find? (fun f => f.name == name) = none) : ∀ g ∈ fs, g.name ≠ name := fun g hg => by
  have := List.find?_eq_none.1 h g hg
  simpa using this
theorem c_impl_DiskSync (d : Disk) (name : Int) (hn : d.files.length ≤ 1000000000) (hz : SmallF d.files) (K : AV → AH → Prop)
    (hk : K (.tup [.agg [.c (.int .i64 ((syncR d name).1.room)), .sl 0 0 0 (syncR d name).1.files.length], (.one (.c (.int .i64 ((syncR d name).2))))]) [.own 0 55 3 none ((syncR d name).1.files.map fileC)]) : ACalls Try.prog 48 [.agg (diskC d), (.one (.c (.int .i64 (name))))] [] K := by
  refine acall_c Try.f48.results.toList mixed Try.func48 rfl rfl (by kernel_rfl) ?_
  intro Q hQ hQO
  simp only [go_sem]
  (try simp only [go_sem]); repeat' (first | (with_reducible refine c_split (fun hb => ?_) (fun hb => ?_) <;> try simp only [go_sem, hb]) | (with_reducible refine w_split (fun hb => ?_) (fun hb => ?_) <;> try simp only [go_sem, hb]) | (refine call_c (c_impl_DiskOk d hn _ ?_) <;> try simp only [go_sem]) | (refine call_c (c_isFile _ _ ?_) <;> try simp only [go_sem]) | (fail))
  · rw [syncR, if_neg (noN1 hb)] at hk
    refine hQO [2] _ _ (GC.step (Ghost.nlc (l := 1) rfl 0 1 rfl rfl 55 3) (GC.now ?_)) <;> simp only [Try.f48, go_sem, List.nodup_cons, List.nodup_nil, List.mem_cons, List.not_mem_nil, or_false, not_false_eq_true, List.idxOf?_cons, List.idxOf?_nil, Option.map_none]
    exact hk
  · rw [syncR, if_neg (noN2 hb)] at hk
    refine hQO [2] _ _ (GC.step (Ghost.nlc (l := 1) rfl 0 1 rfl rfl 55 3) (GC.now ?_)) <;> simp only [Try.f48, go_sem, List.nodup_cons, List.nodup_nil, List.mem_cons, List.not_mem_nil, or_false, not_false_eq_true, List.idxOf?_cons, List.idxOf?_nil, Option.map_none]
    exact hk
  rename_i hb1
  have ok := okN hb1 hb
  rw [syncR, if_pos ok] at hk
  (try simp only [go_sem]); repeat' (first | (with_reducible refine c_split (fun hb => ?_) (fun hb => ?_) <;> try simp only [go_sem, hb]) | (with_reducible refine w_split (fun hb => ?_) (fun hb => ?_) <;> try simp only [go_sem, hb]) | (refine call_c (c_cloneDisk d hn _ (fun cap => ?_)) <;> try simp only [go_sem]) | (fail))
  refine call_c (c_fileAt d name hn _ ?_)
  rcases findG_find (fun f => f.name == name) d.files with ⟨h1, h2⟩ | ⟨i, hi, h1, h3, h2⟩
  · rw [h2] at hk
    simp only at hk
    (try simp only [go_sem, h1, Int.reduceLT, Int.reduceNeg]); repeat' (first | (with_reducible refine c_split (fun hb => ?_) (fun hb => ?_) <;> try simp only [go_sem, hb, h1, Int.reduceLT, Int.reduceNeg]) | (with_reducible refine w_split (fun hb => ?_) (fun hb => ?_) <;> try simp only [go_sem, hb, h1, Int.reduceLT, Int.reduceNeg]) | (fail))
    refine hQO [2] _ _ (GC.step (Ghost.cut (l := 2) rfl d.files.length) (GC.now ?_)) <;> simp only [Try.f48, go_sem, List.nodup_cons, List.nodup_nil, List.mem_cons, List.not_mem_nil, or_false, not_false_eq_true, List.idxOf?_cons, List.idxOf?_nil, Option.map_none, fileC_tk]
    exact hk
  · rw [h2] at hk
    simp only at hk
    have hg : d.files[i]? = some d.files[i] := List.getElem?_eq_getElem hi
    have hsz : d.files[i].safe.size + d.files[i].late.size ≤ 9223372036854775807 := by have := file_small hz hi; omega
    have hlt : ((i : Int) < 0) = False := by simp
    have hil : (i : Int) < (d.files.length : Int) := Int.ofNat_lt.2 hi
    have hps := putF_set ⟨name, d.files[i].safe ++ d.files[i].late, ⟨#[]⟩⟩ d.files i hi (disk_sorted ok.1) (by simpa using h3)
    have hpl : (putF d.files ⟨name, d.files[i].safe ++ d.files[i].late, ⟨#[]⟩⟩).length = d.files.length := by rw [← hps, List.length_set]
    rw [hpl] at hk
    (try simp only [go_sem, h1, hg, hsz, hlt, hil, hi]); repeat' (first | (with_reducible refine c_split (fun hb => ?_) (fun hb => ?_) <;> try simp only [go_sem, hb, h1, hg, hsz, hlt, hil, hi]) | (with_reducible refine w_split (fun hb => ?_) (fun hb => ?_) <;> try simp only [go_sem, hb, h1, hg, hsz, hlt, hil, hi]) | (fail))
    have htk : List.take d.files.length (List.map fileC (d.files.set i ⟨name, d.files[i].safe ++ d.files[i].late, ⟨#[]⟩⟩)) = List.map fileC (putF d.files ⟨name, d.files[i].safe ++ d.files[i].late, ⟨#[]⟩⟩) := by rw [hps]; exact List.take_of_length_le (by simp; omega)
    refine hQO [2] _ _ (GC.step (Ghost.cut (l := 2) rfl d.files.length) (GC.now ?_)) <;> simp only [Try.f48, go_sem, List.nodup_cons, List.nodup_nil, List.mem_cons, List.not_mem_nil, or_false, not_false_eq_true, List.idxOf?_cons, List.idxOf?_nil, Option.map_none, htk]
    exact hk
theorem readA_at {d : Disk} {name : Int} {i : Nat} (hi : i < d.files.length) (h0 : diskOk d = true) (h : findG (fun f => f.name == name) d.files = (i : Int)) : readA d name = some (d.files[i].safe ++ d.files[i].late) := by
  simp [readA, h0, h, hi]
theorem readA_no {d : Disk} {name : Int} (h : findG (fun f => f.name == name) d.files = -1) : readA d name = none := by
  simp only [readA, h]
  split
  · cases d.files[(-1 : Int).toNat]? <;> rfl
  · rfl
theorem c_impl_DiskCut (d : Disk) (name n : Int) (hn : d.files.length ≤ 1000000000) (hz : SmallF d.files) (K : AV → AH → Prop)
    (hk : K (.tup [.agg [.c (.int .i64 ((cutR d name n).1.room)), .sl 0 0 0 (cutR d name n).1.files.length], (.one (.c (.int .i64 ((cutR d name n).2))))]) [.own 0 55 3 none ((cutR d name n).1.files.map fileC)]) : ACalls Try.prog 43 [.agg (diskC d), (.one (.c (.int .i64 (name)))), (.one (.c (.int .i64 (n))))] [] K := by
  refine acall_c Try.f43.results.toList mixed Try.func43 rfl rfl (by kernel_rfl) ?_
  intro Q hQ hQO
  simp only [go_sem]
  (try simp only [go_sem]); repeat' (first | (with_reducible refine c_split (fun hb => ?_) (fun hb => ?_) <;> try simp only [go_sem, hb]) | (with_reducible refine w_split (fun hb => ?_) (fun hb => ?_) <;> try simp only [go_sem, hb]) | (with_reducible refine tw_split (fun hb => ?_) (fun hb => ?_) <;> try simp only [go_sem, hb]) | (with_reducible refine draw_at 0 38 (by with_unfolding_all rfl) [(0, true, true), (1, true, true), (2, true, false), (3, true, false), (5, true, false), (6, true, false), (7, true, false), (8, true, false), (9, true, false), (4, false, false), (10, false, true), (11, false, true)] (by kernel_rfl) ?_ <;> try simp only [go_sem]) | (refine call_c (c_impl_DiskOk d hn _ ?_) <;> try simp only [go_sem]) | (refine call_c (c_isFile _ _ ?_) <;> try simp only [go_sem]) | (fail))
  · rw [cutR, if_neg (noN1 hb)] at hk
    refine hQO [2] _ _ (GC.step (Ghost.nlc (l := 1) rfl 0 1 rfl rfl 55 3) (GC.now ?_)) <;> simp only [Try.f43, go_sem, List.nodup_cons, List.nodup_nil, List.mem_cons, List.not_mem_nil, or_false, not_false_eq_true, List.idxOf?_cons, List.idxOf?_nil, Option.map_none]
    exact hk
  · rw [cutR, if_neg (noN2 hb)] at hk
    refine hQO [2] _ _ (GC.step (Ghost.nlc (l := 1) rfl 0 1 rfl rfl 55 3) (GC.now ?_)) <;> simp only [Try.f43, go_sem, List.nodup_cons, List.nodup_nil, List.mem_cons, List.not_mem_nil, or_false, not_false_eq_true, List.idxOf?_cons, List.idxOf?_nil, Option.map_none]
    exact hk
  rename_i hb1
  have ok := okN hb1 hb
  rw [cutR, if_pos ok] at hk
  (try simp only [go_sem]); repeat' (first | (with_reducible refine c_split (fun hb => ?_) (fun hb => ?_) <;> try simp only [go_sem, hb]) | (with_reducible refine w_split (fun hb => ?_) (fun hb => ?_) <;> try simp only [go_sem, hb]) | (with_reducible refine tw_split (fun hb => ?_) (fun hb => ?_) <;> try simp only [go_sem, hb]) | (with_reducible refine draw_at 0 38 (by with_unfolding_all rfl) [(0, true, true), (1, true, true), (2, true, false), (3, true, false), (5, true, false), (6, true, false), (7, true, false), (8, true, false), (9, true, false), (4, false, false), (10, false, true), (11, false, true)] (by kernel_rfl) ?_ <;> try simp only [go_sem]) | (refine call_c (c_cloneDisk d hn _ (fun cap => ?_)) <;> try simp only [go_sem]) | (fail))
  refine call_c (c_impl_DiskRead d name hn hz _ ?_)
  rcases findG_find (fun f => f.name == name) d.files with ⟨h1, h2⟩ | ⟨i, hi, h1, h3, h2⟩
  · rw [h2] at hk
    simp only at hk
    simp only [readA_no h1, readR, go_sem]
    (try simp only [go_sem]); repeat' (first | (with_reducible refine c_split (fun hb => ?_) (fun hb => ?_) <;> try simp only [go_sem, hb]) | (with_reducible refine w_split (fun hb => ?_) (fun hb => ?_) <;> try simp only [go_sem, hb]) | (with_reducible refine tw_split (fun hb => ?_) (fun hb => ?_) <;> try simp only [go_sem, hb]) | (with_reducible refine draw_at 0 38 (by with_unfolding_all rfl) [(0, true, true), (1, true, true), (2, true, false), (3, true, false), (5, true, false), (6, true, false), (7, true, false), (8, true, false), (9, true, false), (4, false, false), (10, false, true), (11, false, true)] (by kernel_rfl) ?_ <;> try simp only [go_sem]) | (fail))
    refine hQO [2] _ _ (GC.step (Ghost.cut (l := 2) rfl d.files.length) (GC.now ?_)) <;> simp only [Try.f43, go_sem, List.nodup_cons, List.nodup_nil, List.mem_cons, List.not_mem_nil, or_false, not_false_eq_true, List.idxOf?_cons, List.idxOf?_nil, Option.map_none, fileC_tk]
    exact hk
  · rw [h2] at hk
    simp only at hk
    have hfs := file_small hz hi
    have hw : ((d.files[i].safe.size + d.files[i].late.size : Nat) : Int) = (d.files[i].safe.size : Int) + d.files[i].late.size := rfl
    simp only [readA_at hi ok.1 h1, readR, go_sem]
    by_cases hc : 0 ≤ n ∧ n ≤ (d.files[i].safe.size : Int) + d.files[i].late.size
    · rw [if_pos hc] at hk
      have hq : decide (0 ≤ n ∧ n ≤ (d.files[i].safe.size : Int) + d.files[i].late.size) = true := decide_eq_true hc
      have hn0 := hc.1
      have hn1 : n.toNat ≤ d.files[i].safe.size + d.files[i].late.size := by omega
      have hil : (i : Int) < (d.files.length : Int) := Int.ofNat_lt.2 hi
      have hg : d.files[i]? = some d.files[i] := List.getElem?_eq_getElem hi
      have hps := putF_set ⟨name, (d.files[i].safe ++ d.files[i].late).extract 0 n.toNat, ⟨#[]⟩⟩ d.files i hi (disk_sorted ok.1) (by simpa using h3)
      have hpl : (putF d.files ⟨name, (d.files[i].safe ++ d.files[i].late).extract 0 n.toNat, ⟨#[]⟩⟩).length = d.files.length := by rw [← hps, List.length_set]
      rw [hpl] at hk
      have htk : List.take d.files.length (List.map fileC (d.files.set i ⟨name, (d.files[i].safe ++ d.files[i].late).extract 0 n.toNat, ⟨#[]⟩⟩)) = List.map fileC (putF d.files ⟨name, (d.files[i].safe ++ d.files[i].late).extract 0 n.toNat, ⟨#[]⟩⟩) := by rw [hps]; exact List.take_of_length_le (by simp; omega)
      (try simp only [go_sem, hw, hq]); repeat' (first | (with_reducible refine c_split (fun hb => ?_) (fun hb => ?_) <;> try simp only [go_sem, hb, hw, hq]) | (with_reducible refine w_split (fun hb => ?_) (fun hb => ?_) <;> try simp only [go_sem, hb, hw, hq]) | (with_reducible refine tw_split (fun hb => ?_) (fun hb => ?_) <;> try simp only [go_sem, hb, hw, hq]) | (with_reducible refine draw_at 0 38 (by with_unfolding_all rfl) [(0, true, true), (1, true, true), (2, true, false), (3, true, false), (5, true, false), (6, true, false), (7, true, false), (8, true, false), (9, true, false), (4, false, false), (10, false, true), (11, false, true)] (by kernel_rfl) ?_ <;> try simp only [go_sem, hw, hq]) | (refine call_c (c_in _ _ _ _ ?_) <;> try simp only [go_sem, hw, hq]) | (fail))
      (try simp only [go_sem, hn0, hn1, Nat.zero_le, h1, hil, hi, hg]); repeat' (first | (with_reducible refine c_split (fun hb => ?_) (fun hb => ?_) <;> try simp only [go_sem, hb, hn0, hn1, Nat.zero_le, h1, hil, hi, hg]) | (with_reducible refine w_split (fun hb => ?_) (fun hb => ?_) <;> try simp only [go_sem, hb, hn0, hn1, Nat.zero_le, h1, hil, hi, hg]) | (with_reducible refine tw_split (fun hb => ?_) (fun hb => ?_) <;> try simp only [go_sem, hb, hn0, hn1, Nat.zero_le, h1, hil, hi, hg]) | (with_reducible refine draw_at 0 38 (by with_unfolding_all rfl) [(0, true, true), (1, true, true), (2, true, false), (3, true, false), (5, true, false), (6, true, false), (7, true, false), (8, true, false), (9, true, false), (4, false, false), (10, false, true), (11, false, true)] (by kernel_rfl) ?_ <;> try simp only [go_sem, hn0, hn1, Nat.zero_le, h1, hil, hi, hg]) | (refine call_c (c_fileAt d name hn _ ?_) <;> try simp only [go_sem, hn0, hn1, Nat.zero_le, h1, hil, hi, hg]) | (fail))
      refine hQO [2] _ _ (GC.step (Ghost.cut (l := 2) rfl d.files.length) (GC.now ?_)) <;> simp only [Try.f43, go_sem, List.nodup_cons, List.nodup_nil, List.mem_cons, List.not_mem_nil, or_false, not_false_eq_true, List.idxOf?_cons, List.idxOf?_nil, Option.map_none, htk]
      exact hk
    · rw [if_neg hc] at hk
      have hq : decide (0 ≤ n ∧ n ≤ (d.files[i].safe.size : Int) + d.files[i].late.size) = false := decide_eq_false hc
      (try simp only [go_sem, hw, hq]); repeat' (first | (with_reducible refine c_split (fun hb => ?_) (fun hb => ?_) <;> try simp only [go_sem, hb, hw, hq]) | (with_reducible refine w_split (fun hb => ?_) (fun hb => ?_) <;> try simp only [go_sem, hb, hw, hq]) | (with_reducible refine tw_split (fun hb => ?_) (fun hb => ?_) <;> try simp only [go_sem, hb, hw, hq]) | (with_reducible refine draw_at 0 38 (by with_unfolding_all rfl) [(0, true, true), (1, true, true), (2, true, false), (3, true, false), (5, true, false), (6, true, false), (7, true, false), (8, true, false), (9, true, false), (4, false, false), (10, false, true), (11, false, true)] (by kernel_rfl) ?_ <;> try simp only [go_sem, hw, hq]) | (refine call_c (c_in _ _ _ _ ?_) <;> try simp only [go_sem, hw, hq]) | (fail))
      refine hQO [2] _ _ (GC.step (Ghost.cut (l := 2) rfl d.files.length) (GC.now ?_)) <;> simp only [Try.f43, go_sem, List.nodup_cons, List.nodup_nil, List.mem_cons, List.not_mem_nil, or_false, not_false_eq_true, List.idxOf?_cons, List.idxOf?_nil, Option.map_none, fileC_tk]
      exact hk
end Go.Proofs.Ytaahlnjldenhpaa
