/- LawRead: the law over SegRead answers true. Conditions: none. -/
import Derived.Test.YtjfmfcdempkpdaaLG
import Derived.Test.YtjfmfcdempkpdaaLT
import Derived.Test.YtjfmfcdempkpdaaLSegRead
import Derived.Test.YtjfmfcdempkpdaaLMark
namespace Go.Proofs.Ytjfmfcdempkpdaa
open Go.BL Go.RowKit
set_option linter.unusedVariables false
set_option linter.unusedSimpArgs false
set_option maxRecDepth 100000
attribute [local go_sem] diskC
theorem roomTo_mono (fs : List File) : ∀ {i j : Nat}, i ≤ j → roomTo fs i ≤ roomTo fs j := fun {i j} h => by
  induction j with
  | zero => rw [show i = 0 by omega]; exact Int.le_refl _
  | succ j ih =>
    rcases Nat.lt_or_ge i (j + 1) with h' | h'
    · refine Int.le_trans (ih (by omega)) ?_
      rw [roomTo]
      split
      · exact Int.le_add_of_nonneg_right (Int.add_nonneg (Int.natCast_nonneg _) (Int.natCast_nonneg _))
      · exact Int.le_add_of_nonneg_right (Int.le_refl _)
    · rw [show i = j + 1 by omega]; exact Int.le_refl _
theorem room_file {fs : List File} {i : Nat} {f : File} (h : fs[i]? = some f) : (f.safe.size : Int) + f.late.size ≤ roomTo fs fs.length := by
  obtain ⟨hi, e⟩ := List.getElem?_eq_some_iff.1 h
  have h1 := roomTo_succ fs i hi
  have h2 := roomTo_mono fs (show i + 1 ≤ fs.length by omega)
  have h3 := roomTo_nonneg fs i
  rw [e] at h1
  omega
theorem read_room {d : Disk} {name : Int} {s : ByteArray} (h : readA d name = some s) : (s.size : Int) ≤ roomTo d.files d.files.length := by
  unfold readA at h
  split at h
  · obtain ⟨f, hf, h2⟩ := Option.bind_eq_some_iff.1 h
    split at h2
    · cases h2
      rw [ByteArray.size_append]
      exact room_file hf
    · cases h2
  · cases h
theorem segGo_len (bs : List UInt8) : ∀ k a, (segGo bs k a).1.length ≤ k
  | 0, a => by simp [segGo]
  | k + 1, a => by
    rw [segGo]
    split
    · have := segGo_len bs k (openS bs a).2.1
      simp; omega
    · simp
theorem segRd_len (d : Disk) (seg : Int) : (segRd d seg).1.length ≤ 6 := by
  unfold segRd
  split
  · split
    · exact segGo_len _ _ _
    · simp
  · simp
theorem c_FnExactSegRead (d : Disk) (seg : Int) (hz : SizedF d.files) (hn : d.files.length ≤ 1000000000000000) (K : AV → AH → Prop) (hk : K (.one (.c (.bool (true)))) []) : ACalls Try.prog 6 [.agg (diskC d), (.one (.c (.int .i64 (seg))))] [] K := by
  refine acall_c Try.f6.results.toList mixed Try.func6 rfl rfl (by kernel_rfl) ?_
  intro Q hQ hQO
  simp only [go_sem]
  (try simp only [go_sem]); repeat' (first | (with_reducible refine c_split (fun hb => ?_) (fun hb => ?_) <;> try simp only [go_sem, hb]) | (with_reducible refine w_split (fun hb => ?_) (fun hb => ?_) <;> try simp only [go_sem, hb]) | (with_reducible refine tw_split (fun hb => ?_) (fun hb => ?_) <;> try simp only [go_sem, hb]) | (with_reducible refine draw_at 0 45 (by with_unfolding_all rfl) [(0, true, true), (1, false, false), (2, false, false), (3, false, true), (4, false, true)] (by kernel_rfl) ?_ <;> try simp only [go_sem]) | (refine call_c (c_szDisk d _ hz hn (by decide) (by decide) _ (fun r hr => ?_)) <;> try simp only [go_sem]) | (with_reducible refine hQ _ _ ?_ <;> simp only [Try.f6, go_sem]))
  · exact hk
  have hr2 := hr (by have := of_decide_eq_false hb; omega)
  have h3 := roomTo_nonneg d.files d.files.length
  have hn1 : d.files.length ≤ 1000000000 := by have := of_decide_eq_false hb; omega
  have hsz : ∀ s, readA d seg = some s → s.size ≤ 1000000000000 := fun s h => by
    have := read_room h
    have := of_decide_eq_false hb
    omega
  have hl6 := segRd_len d seg
  have hl9 : (segRd d seg).1.length ≤ 1000000000 := by omega
  have e1 : decide ((1 : Int) + 3 * d.files.length < 0) = false := decide_eq_false (by omega)
  have e2 : decide ((1 : Int) + (segRd d seg).1.length < 0) = false := decide_eq_false (by omega)
  have htk : (List.map strC (List.map (markStringS 1) (List.range (segRd d seg).1.length))).take (segRd d seg).1.length = List.map strC (List.map (markStringS 1) (List.range (segRd d seg).1.length)) := List.take_of_length_le (by simp)
  (try simp only [go_sem, BEq.rfl, List.length_range, htk, e1, e2, marksF_len, marksF_tk]); repeat' (first | (with_reducible refine c_split (fun hb => ?_) (fun hb => ?_) <;> try simp only [go_sem, hb, BEq.rfl, List.length_range, htk, e1, e2, marksF_len, marksF_tk]) | (with_reducible refine w_split (fun hb => ?_) (fun hb => ?_) <;> try simp only [go_sem, hb, BEq.rfl, List.length_range, htk, e1, e2, marksF_len, marksF_tk]) | (with_reducible refine tw_split (fun hb => ?_) (fun hb => ?_) <;> try simp only [go_sem, hb, BEq.rfl, List.length_range, htk, e1, e2, marksF_len, marksF_tk]) | (with_reducible refine draw_at 0 45 (by with_unfolding_all rfl) [(0, true, true), (1, false, false), (2, false, false), (3, false, true), (4, false, true)] (by kernel_rfl) ?_ <;> try simp only [go_sem, BEq.rfl, List.length_range, htk, e1, e2, marksF_len, marksF_tk]) | (refine call_c (c_toDisk d hn1 _ ?_) <;> try simp only [go_sem, BEq.rfl, List.length_range, htk, e1, e2, marksF_len, marksF_tk]) | (refine call_c (c_spec_SegRead d seg hn1 hz hsz _ ?_) <;> try simp only [go_sem, BEq.rfl, List.length_range, htk, e1, e2, marksF_len, marksF_tk]) | (refine call_c (c_impl_SegRead d seg hn1 hz hsz _ ?_) <;> try simp only [go_sem, BEq.rfl, List.length_range, htk, e1, e2, marksF_len, marksF_tk]) | (refine call_c (c_eqStringS _ hl9 _ ?_) <;> try simp only [go_sem, BEq.rfl, List.length_range, htk, e1, e2, marksF_len, marksF_tk]) | (refine call_c (c_eqDisk d hn1 _ ?_) <;> try simp only [go_sem, BEq.rfl, List.length_range, htk, e1, e2, marksF_len, marksF_tk]) | (refine call_h (c_markDisk _ d.files 1 2 0 _ _ rfl hn1 (by decide) (by decide) _ ?_) <;> try simp only [go_sem, BEq.rfl, List.length_range, htk, e1, e2, marksF_len, marksF_tk]) | (refine call_h (c_markStringS _ 1 4 0 _ _ rfl hl9 (by decide) (by decide) _ ?_) <;> try simp only [go_sem, BEq.rfl, List.length_range, htk, e1, e2, marksF_len, marksF_tk]) | (refine call_c (c_heldStringS (segRd d seg).1.length 1 hl9 (by decide) (by decide) _ ?_) <;> try simp only [go_sem, BEq.rfl, List.length_range, htk, e1, e2, marksF_len, marksF_tk]) | (with_reducible refine hQ _ _ ?_ <;> simp only [Try.f6, go_sem, BEq.rfl, List.length_range, htk, e1, e2, marksF_len, marksF_tk]))
  exact hk
end Go.Proofs.Ytjfmfcdempkpdaa
