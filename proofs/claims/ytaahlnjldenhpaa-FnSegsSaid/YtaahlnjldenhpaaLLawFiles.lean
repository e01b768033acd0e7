/- LawFiles: the law over files of a drawn disk answers true. Conditions: none. -/
import Derived.Test.YtaahlnjldenhpaaLG
import Derived.Test.YtaahlnjldenhpaaLT
import Derived.Test.YtaahlnjldenhpaaLDrawD
namespace Go.Proofs.Ytaahlnjldenhpaa
open Go.BL Go.RowKit
set_option linter.unusedVariables false
set_option linter.unusedSimpArgs false
set_option maxRecDepth 100000
attribute [local go_sem] fileC diskC fileC_len diskR
theorem less_putF (fs : List File) (f : File) : (lessF (putF fs f) f.name).length + 1 = (putF fs f).length := by
  have h1 : (fs.filter fun g => decide (g.name < f.name)).filter (fun g => !(g.name == f.name)) = fs.filter fun g => decide (g.name < f.name) := List.filter_eq_self.2 fun g hg => by
    have := of_decide_eq_true (List.mem_filter.1 hg).2
    simp; omega
  have h2 : (fs.filter fun g => decide (f.name < g.name)).filter (fun g => !(g.name == f.name)) = fs.filter fun g => decide (f.name < g.name) := List.filter_eq_self.2 fun g hg => by
    have := of_decide_eq_true (List.mem_filter.1 hg).2
    simp; omega
  rw [lessF, putF, List.filter_append, List.filter_cons, h1, h2]
  simp; omega
theorem ba_nil (a : ByteArray) : a ++ (⟨#[]⟩ : ByteArray) = a := by
  cases a; rename_i a
  show ByteArray.append _ _ = _
  simp [ByteArray.append, ByteArray.copySlice]
theorem nil_ba (a : ByteArray) : (⟨#[]⟩ : ByteArray) ++ a = a := ByteArray.empty_append
theorem old_add (d : Disk) (h : diskOk d = true) (name : Int) (s : ByteArray) : ∃ old ob, readR (readA d name) = .tup [(.one (.c (.string (old)))), (.one (.c (.bool (ob))))] ∧ (addF d.files name s).safe ++ (addF d.files name s).late = old ++ s ∧ ((∃ f ∈ d.files, old = f.safe ++ f.late) ∨ old = ⟨#[]⟩) := by
  rw [read_ok h]
  unfold addF
  cases hf : d.files.find? (fun g => g.name == name) with
  | none => exact ⟨⟨#[]⟩, false, rfl, nil_ba _, .inr rfl⟩
  | some f => exact ⟨f.safe ++ f.late, true, rfl, ByteArray.append_assoc.symm, .inl ⟨f, List.mem_of_find?_eq_some hf, rfl⟩⟩
theorem appR_cases (d : Disk) (name : Int) (s : ByteArray) : appR d name s = (⟨0, []⟩, 1) ∨ appR d name s = (d, 3) ∨ ((diskOk d = true ∧ 0 ≤ name ∧ name ≤ 21) ∧ ¬ d.room < roomTo d.files d.files.length + s.size ∧ appR d name s = (⟨d.room, putF d.files (addF d.files name s)⟩, 0)) := by
  unfold appR
  split
  · rename_i ok
    split
    · exact .inr (.inl rfl)
    · rename_i h; exact .inr (.inr ⟨ok, h, rfl⟩)
  · exact .inl rfl
theorem files_law {d : Disk} {name : Int} {s : ByteArray} (hd : OkD d) (ok : diskOk d = true ∧ 0 ≤ name ∧ name ≤ 21) (hfit : ¬ d.room < roomTo d.files d.files.length + s.size) (e : appR d name s = (⟨d.room, putF d.files (addF d.files name s)⟩, 0)) :
    ∃ (old : ByteArray) (ob : Bool) (E B X Y : Disk) (to : Int), appR d name s = (E, 0) ∧ readR (readA d name) = .tup [(.one (.c (.string (old)))), (.one (.c (.bool (ob))))] ∧ old.size ≤ 200000 ∧ readA E name = some (old ++ s) ∧ cutR E name old.size = (B, 0) ∧ readA B name = some old ∧ (wrap64 (name + 1)).tmod 22 = to ∧ moveR E name to = (X, 0) ∧ readA X to = some (old ++ s) ∧ readA X name = none ∧ diskOk X = true ∧ dropR X to = (Y, 0) ∧ readA Y to = none ∧ Y.files.length + 1 = X.files.length ∧ Good E ∧ Good B ∧ Good X ∧ Good Y := by
  have hG := good_of (okd_small hd) ok.1
  obtain ⟨old, ob, h1, h2, h3⟩ := old_add d ok.1 name s
  have hos : old.size ≤ 200000 := by
    rcases h3 with ⟨f, hf, rfl⟩ | rfl
    · have := hd.2 f hf; rw [ByteArray.size_append]; omega
    · exact Nat.zero_le _
  have hn := (add_facts d.files name s).1
  have hGE : Good ⟨d.room, putF d.files (addF d.files name s)⟩ := by
    have := good_app hG name s (by rw [e]; show (0 : Int) ≠ 1; decide)
    rw [e] at this; exact this
  generalize hF : addF d.files name s = F at *
  have fE : (putF d.files F).find? (fun g => g.name == name) = some F := by rw [find_put, if_pos hn.symm]
  have rE : readA ⟨d.room, putF d.files F⟩ name = some (old ++ s) := by rw [read_ok (good_ok hGE), fE, ← h2]; rfl
  have hsz : old.size + s.size = F.safe.size + F.late.size := by rw [← ByteArray.size_append, ← h2, ByteArray.size_append]
  have hex : (F.safe ++ F.late).extract 0 (old.size : Int).toNat = old := by rw [h2, Int.toNat_natCast]; exact ByteArray.extract_append_eq_left rfl
  have cE : cutR ⟨d.room, putF d.files F⟩ name old.size = (⟨d.room, putF (putF d.files F) ⟨name, old, ⟨#[]⟩⟩⟩, 0) := by
    unfold cutR
    rw [if_pos ⟨good_ok hGE, ok.2⟩, fE]
    simp only
    rw [if_pos (by omega), hex]
  have hGB := good_cut hGE name old.size (by rw [cE]; show (0 : Int) ≠ 1; decide)
  rw [cE] at hGB
  have rB : readA ⟨d.room, putF (putF d.files F) ⟨name, old, ⟨#[]⟩⟩⟩ name = some old := by
    rw [read_ok (good_ok hGB), find_put, if_pos rfl]
    simp [ba_nil]
  have hto : (wrap64 (name + 1)).tmod 22 = (name + 1).emod 22 := by rw [wrap_id _ (by omega) (by omega), Int.tmod_eq_emod_of_nonneg (by omega)]; rfl
  generalize hT : (name + 1).emod 22 = to at *
  have ht0 : 0 ≤ to ∧ to ≤ 21 ∧ name ≠ to := by
    have a1 := Int.emod_nonneg (name + 1) (show (22 : Int) ≠ 0 by decide)
    have a2 := Int.emod_lt_of_pos (name + 1) (show (0 : Int) < 22 by decide)
    have a3 : (name + 1) % 22 = to := hT
    omega
  have mE : moveR ⟨d.room, putF d.files F⟩ name to = (⟨d.room, putF (lessF (putF d.files F) name) ⟨to, F.safe, F.late⟩⟩, 0) := by
    unfold moveR
    rw [if_pos ⟨good_ok hGE, ok.2, ⟨ht0.1, ht0.2.1⟩, ht0.2.2⟩]
    simp only [fE]
  have hGX := good_move hGE name to (by rw [mE]; show (0 : Int) ≠ 1; decide)
  rw [mE] at hGX
  have fX : (putF (lessF (putF d.files F) name) ⟨to, F.safe, F.late⟩).find? (fun g => g.name == to) = some ⟨to, F.safe, F.late⟩ := by rw [find_put, if_pos rfl]
  have rX : readA ⟨d.room, putF (lessF (putF d.files F) name) ⟨to, F.safe, F.late⟩⟩ to = some (old ++ s) := by rw [read_ok (good_ok hGX), fX, ← h2]; rfl
  have rX2 : readA ⟨d.room, putF (lessF (putF d.files F) name) ⟨to, F.safe, F.late⟩⟩ name = none := by rw [read_ok (good_ok hGX), find_put, if_neg ht0.2.2, find_less, if_pos rfl]; rfl
  have dX : dropR ⟨d.room, putF (lessF (putF d.files F) name) ⟨to, F.safe, F.late⟩⟩ to = (⟨d.room, lessF (putF (lessF (putF d.files F) name) ⟨to, F.safe, F.late⟩) to⟩, 0) := by
    unfold dropR
    rw [if_pos ⟨good_ok hGX, ht0.1, ht0.2.1⟩, fX]
  have hGY := good_less hGX to
  have rY : readA ⟨d.room, lessF (putF (lessF (putF d.files F) name) ⟨to, F.safe, F.late⟩) to⟩ to = none := by rw [read_ok (good_ok hGY), find_less, if_pos rfl]; rfl
  exact ⟨old, ob, _, _, _, _, to, e, h1, hos, rE, cE, rB, hto, mE, rX, rX2, good_ok hGX, dX, rY, less_putF _ ⟨to, F.safe, F.late⟩, hGE, hGB, hGX, hGY⟩
theorem rr_some (s : ByteArray) : readR (some s) = .tup [(.one (.c (.string (s)))), (.one (.c (.bool (true))))] := rfl
theorem rr_none : readR none = .tup [(.one (.c (.string (⟨#[]⟩)))), (.one (.c (.bool (false))))] := rfl
theorem z0 : ((0 : Nat) : Int) = 0 := rfl
theorem z3 : ((3 : Int) == 1) = false := rfl
theorem c_big (b : List UInt8) (K : AV → AH → Prop) (hk : K (.one (.c (.bool (decide ((1048576 : Int) < b.length))))) []) : ACalls Try.prog 5 [(.one (.im (b.map byteC)))] [] K := by
  refine acall_c Try.f5.results.toList mixed Try.func5 rfl rfl (by kernel_rfl) ?_
  intro Q hQ hQO
  simp only [go_sem]
  (try simp only [go_sem]); repeat' (first | (with_reducible refine c_split (fun hb => ?_) (fun hb => ?_) <;> try simp only [go_sem, hb]) | (with_reducible refine w_split (fun hb => ?_) (fun hb => ?_) <;> try simp only [go_sem, hb]) | (with_reducible refine hQ _ _ ?_ <;> simp only [Try.f5, go_sem]))
  exact hk
end Go.Proofs.Ytaahlnjldenhpaa
