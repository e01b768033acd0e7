/- Append: bytes are put behind a file. Conditions: none. -/
import Derived.Test.YtaahlnjldenhpaaLG
import Derived.Test.YtaahlnjldenhpaaLT
import Derived.Test.YtaahlnjldenhpaaLDisk
namespace Go.Proofs.Ytaahlnjldenhpaa
open Go.BL Go.RowKit
set_option linter.unusedVariables false
set_option linter.unusedSimpArgs false
set_option maxRecDepth 100000
attribute [local go_sem] fileC diskC fileC_len
theorem c_impl_DiskAppend (d : Disk) (name : Int) (s : ByteArray) (hn : d.files.length ≤ 1000000000) (hz : SmallF d.files) (hs : s.size ≤ 1000000000000) (K : AV → AH → Prop)
    (hk : K (.tup [.agg [.c (.int .i64 ((appR d name s).1.room)), .sl 0 0 0 (appR d name s).1.files.length], (.one (.c (.int .i64 ((appR d name s).2))))]) [.own 0 55 3 none ((appR d name s).1.files.map fileC)]) : ACalls Try.prog 52 [.agg (diskC d), (.one (.c (.int .i64 (name)))), (.one (.c (.string (s))))] [] K := by
  refine acall_c Try.f52.results.toList mixed Try.func52 rfl rfl (by kernel_rfl) ?_
  intro Q hQ hQO
  simp only [go_sem]
  (try simp only [go_sem]); repeat' (first | (with_reducible refine c_split (fun hb => ?_) (fun hb => ?_) <;> try simp only [go_sem, hb]) | (with_reducible refine w_split (fun hb => ?_) (fun hb => ?_) <;> try simp only [go_sem, hb]) | (with_reducible refine tw_split (fun hb => ?_) (fun hb => ?_) <;> try simp only [go_sem, hb]) | (with_reducible refine draw_at 0 20 (by with_unfolding_all rfl) [(0, true, true), (2, true, false), (3, true, false), (5, true, false), (6, true, false), (1, false, false), (4, false, false), (7, false, false)] (by kernel_rfl) ?_ <;> try simp only [go_sem]) | (with_reducible refine draw_at 0 36 (by with_unfolding_all rfl) [(0, true, true), (1, true, true), (2, true, false), (3, true, false), (8, true, false), (4, false, false), (5, false, false), (6, false, false), (7, false, false), (9, false, false), (10, false, true), (11, false, true), (12, false, true)] (by kernel_rfl) ?_ <;> try simp only [go_sem]) | (refine call_c (c_impl_DiskOk d hn _ ?_) <;> try simp only [go_sem]) | (refine call_c (c_isFile _ _ ?_) <;> try simp only [go_sem]) | (fail))
  · rw [appR, if_neg (noN1 hb)] at hk
    refine hQO [2] _ _ (GC.step (Ghost.nlc (l := 1) rfl 0 1 rfl rfl 55 3) (GC.now ?_)) <;> simp only [Try.f52, go_sem, List.nodup_cons, List.nodup_nil, List.mem_cons, List.not_mem_nil, or_false, not_false_eq_true, List.idxOf?_cons, List.idxOf?_nil, Option.map_none]
    exact hk
  · rw [appR, if_neg (noN2 hb)] at hk
    refine hQO [2] _ _ (GC.step (Ghost.nlc (l := 1) rfl 0 1 rfl rfl 55 3) (GC.now ?_)) <;> simp only [Try.f52, go_sem, List.nodup_cons, List.nodup_nil, List.mem_cons, List.not_mem_nil, or_false, not_false_eq_true, List.idxOf?_cons, List.idxOf?_nil, Option.map_none]
    exact hk
  rename_i hb1
  have ok := okN hb1 hb
  rw [appR, if_pos ok] at hk
  obtain ⟨w1, w2⟩ := full_w (s := s) hz hs ok.1
  (try simp only [go_sem, w2]); repeat' (first | (with_reducible refine c_split (fun hb => ?_) (fun hb => ?_) <;> try simp only [go_sem, hb, w2]) | (with_reducible refine w_split (fun hb => ?_) (fun hb => ?_) <;> try simp only [go_sem, hb, w2]) | (with_reducible refine tw_split (fun hb => ?_) (fun hb => ?_) <;> try simp only [go_sem, hb, w2]) | (with_reducible refine draw_at 0 20 (by with_unfolding_all rfl) [(0, true, true), (2, true, false), (3, true, false), (5, true, false), (6, true, false), (1, false, false), (4, false, false), (7, false, false)] (by kernel_rfl) ?_ <;> try simp only [go_sem, w2]) | (with_reducible refine draw_at 0 36 (by with_unfolding_all rfl) [(0, true, true), (1, true, true), (2, true, false), (3, true, false), (8, true, false), (4, false, false), (5, false, false), (6, false, false), (7, false, false), (9, false, false), (10, false, true), (11, false, true), (12, false, true)] (by kernel_rfl) ?_ <;> try simp only [go_sem, w2]) | (refine call_c (c_cloneDisk d hn _ (fun cap => ?_)) <;> try simp only [go_sem, w2]) | (refine call_c (c_usedRoom d hn _ ?_) <;> try simp only [go_sem, w2]) | (fail))
  · rw [if_pos (of_decide_eq_true hb)] at hk
    refine hQO [2] _ _ (GC.step (Ghost.cut (l := 2) rfl d.files.length) (GC.now ?_)) <;> simp only [Try.f52, go_sem, List.nodup_cons, List.nodup_nil, List.mem_cons, List.not_mem_nil, or_false, not_false_eq_true, List.idxOf?_cons, List.idxOf?_nil, Option.map_none, fileC_tk]
    exact hk
  rw [if_neg (of_decide_eq_false hb)] at hk
  refine call_c (c_fileAt d name hn _ ?_)
  rcases findG_find (fun f => f.name == name) d.files with ⟨h1, h2⟩ | ⟨i, hi, h1, h3, h2⟩
  · rw [addF, h2] at hk
    simp only at hk
    have hno := find_none h2
    have hpo := putPos_le d.files ⟨name, ⟨#[]⟩, ⟨#[]⟩⟩
    have hpa := putF_absent ⟨name, ⟨#[]⟩, (⟨#[]⟩ : ByteArray) ++ s⟩ d.files (disk_sorted ok.1) hno
    have hpp : putPos d.files ⟨name, ⟨#[]⟩, (⟨#[]⟩ : ByteArray) ++ s⟩ = putPos d.files ⟨name, ⟨#[]⟩, ⟨#[]⟩⟩ := rfl
    have hfi := findG_ins d.files (putPos d.files ⟨name, ⟨#[]⟩, ⟨#[]⟩⟩) ⟨name, ⟨#[]⟩, ⟨#[]⟩⟩ hpo hno
    have hil := insAt_len d.files (putPos d.files ⟨name, ⟨#[]⟩, ⟨#[]⟩⟩) (⟨name, ⟨#[]⟩, ⟨#[]⟩⟩ : File) hpo
    have hig := insAt_get d.files (putPos d.files ⟨name, ⟨#[]⟩, ⟨#[]⟩⟩) (⟨name, ⟨#[]⟩, ⟨#[]⟩⟩ : File) hpo
    have his := insAt_set d.files (putPos d.files ⟨name, ⟨#[]⟩, ⟨#[]⟩⟩) (⟨name, ⟨#[]⟩, ⟨#[]⟩⟩ : File) ⟨name, ⟨#[]⟩, (⟨#[]⟩ : ByteArray) ++ s⟩ hpo
    rw [hpp] at hpa
    rw [hpa] at his
    have hpl : (putF d.files ⟨name, ⟨#[]⟩, (⟨#[]⟩ : ByteArray) ++ s⟩).length = d.files.length + 1 := by rw [← hpa]; exact insAt_len _ _ _ hpo
    rw [hpl] at hk
    simp only at hfi
    have hsz : (ByteArray.mk #[]).size + s.size ≤ 9223372036854775807 := by show 0 + s.size ≤ _; omega
    (try simp only [go_sem, h1, Int.reduceLT, Int.reduceNeg]); repeat' (first | (with_reducible refine c_split (fun hb => ?_) (fun hb => ?_) <;> try simp only [go_sem, hb, h1, Int.reduceLT, Int.reduceNeg]) | (with_reducible refine w_split (fun hb => ?_) (fun hb => ?_) <;> try simp only [go_sem, hb, h1, Int.reduceLT, Int.reduceNeg]) | (with_reducible refine tw_split (fun hb => ?_) (fun hb => ?_) <;> try simp only [go_sem, hb, h1, Int.reduceLT, Int.reduceNeg]) | (with_reducible refine draw_at 0 20 (by with_unfolding_all rfl) [(0, true, true), (2, true, false), (3, true, false), (5, true, false), (6, true, false), (1, false, false), (4, false, false), (7, false, false)] (by kernel_rfl) ?_ <;> try simp only [go_sem, h1, Int.reduceLT, Int.reduceNeg]) | (with_reducible refine draw_at 0 36 (by with_unfolding_all rfl) [(0, true, true), (1, true, true), (2, true, false), (3, true, false), (8, true, false), (4, false, false), (5, false, false), (6, false, false), (7, false, false), (9, false, false), (10, false, true), (11, false, true), (12, false, true)] (by kernel_rfl) ?_ <;> try simp only [go_sem, h1, Int.reduceLT, Int.reduceNeg]) | (refine call_h (c_put d.room d.files ⟨name, ⟨#[]⟩, ⟨#[]⟩⟩ 3 2 0 cap _ rfl rfl hn _ (fun g' => ?_)) <;> try simp only [go_sem, h1, Int.reduceLT, Int.reduceNeg]) | (fail))
    generalize putPos d.files ⟨name, ⟨#[]⟩, ⟨#[]⟩⟩ = pos at *
    generalize hX : insAt d.files pos ⟨name, ⟨#[]⟩, ⟨#[]⟩⟩ = X at *
    have hXn : X.length ≤ 1000000001 := by omega
    have hpX : pos < X.length := by omega
    have hpn : (pos : Int) < ((d.files.length + 1 : Nat) : Int) := by omega
    have htX : List.take (d.files.length + 1) (List.map fileC X) = List.map fileC X := List.take_of_length_le (by simp; omega)
    have hXm : X.length ≤ 1000000000 := by have := disk_len ok.1; omega
    have hXl : X.length = d.files.length + 1 := hil
    (try simp only [go_sem, htX, hXl]); repeat' (first | (with_reducible refine c_split (fun hb => ?_) (fun hb => ?_) <;> try simp only [go_sem, hb, htX, hXl]) | (with_reducible refine w_split (fun hb => ?_) (fun hb => ?_) <;> try simp only [go_sem, hb, htX, hXl]) | (with_reducible refine tw_split (fun hb => ?_) (fun hb => ?_) <;> try simp only [go_sem, hb, htX, hXl]) | (with_reducible refine draw_at 0 20 (by with_unfolding_all rfl) [(0, true, true), (2, true, false), (3, true, false), (5, true, false), (6, true, false), (1, false, false), (4, false, false), (7, false, false)] (by kernel_rfl) ?_ <;> try simp only [go_sem, htX, hXl]) | (with_reducible refine draw_at 0 36 (by with_unfolding_all rfl) [(0, true, true), (1, true, true), (2, true, false), (3, true, false), (8, true, false), (4, false, false), (5, false, false), (6, false, false), (7, false, false), (9, false, false), (10, false, true), (11, false, true), (12, false, true)] (by kernel_rfl) ?_ <;> try simp only [go_sem, htX, hXl]) | (refine call_c (c_fileAt ⟨d.room, X⟩ name hXm _ ?_) <;> try simp only [go_sem, htX, hXl]) | (fail))
    (try simp only [go_sem, hfi, hXl, hpX, hpn, hig]); repeat' (first | (with_reducible refine c_split (fun hb => ?_) (fun hb => ?_) <;> try simp only [go_sem, hb, hfi, hXl, hpX, hpn, hig]) | (with_reducible refine w_split (fun hb => ?_) (fun hb => ?_) <;> try simp only [go_sem, hb, hfi, hXl, hpX, hpn, hig]) | (with_reducible refine tw_split (fun hb => ?_) (fun hb => ?_) <;> try simp only [go_sem, hb, hfi, hXl, hpX, hpn, hig]) | (with_reducible refine draw_at 0 20 (by with_unfolding_all rfl) [(0, true, true), (2, true, false), (3, true, false), (5, true, false), (6, true, false), (1, false, false), (4, false, false), (7, false, false)] (by kernel_rfl) ?_ <;> try simp only [go_sem, hfi, hXl, hpX, hpn, hig]) | (with_reducible refine draw_at 0 36 (by with_unfolding_all rfl) [(0, true, true), (1, true, true), (2, true, false), (3, true, false), (8, true, false), (4, false, false), (5, false, false), (6, false, false), (7, false, false), (9, false, false), (10, false, true), (11, false, true), (12, false, true)] (by kernel_rfl) ?_ <;> try simp only [go_sem, hfi, hXl, hpX, hpn, hig]) | (fail))
    rw [b_sadd (hs := hsz)]
    (try simp only [go_sem, hfi, hXl, hpX, hpn, hig]); repeat' (first | (with_reducible refine c_split (fun hb => ?_) (fun hb => ?_) <;> try simp only [go_sem, hb, hfi, hXl, hpX, hpn, hig]) | (with_reducible refine w_split (fun hb => ?_) (fun hb => ?_) <;> try simp only [go_sem, hb, hfi, hXl, hpX, hpn, hig]) | (with_reducible refine tw_split (fun hb => ?_) (fun hb => ?_) <;> try simp only [go_sem, hb, hfi, hXl, hpX, hpn, hig]) | (with_reducible refine draw_at 0 20 (by with_unfolding_all rfl) [(0, true, true), (2, true, false), (3, true, false), (5, true, false), (6, true, false), (1, false, false), (4, false, false), (7, false, false)] (by kernel_rfl) ?_ <;> try simp only [go_sem, hfi, hXl, hpX, hpn, hig]) | (with_reducible refine draw_at 0 36 (by with_unfolding_all rfl) [(0, true, true), (1, true, true), (2, true, false), (3, true, false), (8, true, false), (4, false, false), (5, false, false), (6, false, false), (7, false, false), (9, false, false), (10, false, true), (11, false, true), (12, false, true)] (by kernel_rfl) ?_ <;> try simp only [go_sem, hfi, hXl, hpX, hpn, hig]) | (fail))
    refine hQO [2] _ _ (GC.now ?_) <;> simp only [Try.f52, go_sem, List.nodup_cons, List.nodup_nil, List.mem_cons, List.not_mem_nil, or_false, not_false_eq_true, List.idxOf?_cons, List.idxOf?_nil, Option.map_none, his]
    exact hk
  · rw [addF, h2] at hk
    simp only at hk
    have hg : d.files[i]? = some d.files[i] := List.getElem?_eq_getElem hi
    have hsz : d.files[i].late.size + s.size ≤ 9223372036854775807 := by have := file_small hz hi; omega
    have hlt : ((i : Int) < 0) = False := by simp
    have hil : (i : Int) < (d.files.length : Int) := Int.ofNat_lt.2 hi
    have hps := putF_set ⟨d.files[i].name, d.files[i].safe, d.files[i].late ++ s⟩ d.files i hi (disk_sorted ok.1) rfl
    have hpl : (putF d.files ⟨d.files[i].name, d.files[i].safe, d.files[i].late ++ s⟩).length = d.files.length := by rw [← hps, List.length_set]
    rw [hpl] at hk
    have htk : List.take d.files.length (List.map fileC (d.files.set i ⟨d.files[i].name, d.files[i].safe, d.files[i].late ++ s⟩)) = List.map fileC (putF d.files ⟨d.files[i].name, d.files[i].safe, d.files[i].late ++ s⟩) := by rw [hps]; exact List.take_of_length_le (by simp; omega)
    (try simp only [go_sem, h1, hg, hsz, hlt, hil, hi]); repeat' (first | (with_reducible refine c_split (fun hb => ?_) (fun hb => ?_) <;> try simp only [go_sem, hb, h1, hg, hsz, hlt, hil, hi]) | (with_reducible refine w_split (fun hb => ?_) (fun hb => ?_) <;> try simp only [go_sem, hb, h1, hg, hsz, hlt, hil, hi]) | (with_reducible refine tw_split (fun hb => ?_) (fun hb => ?_) <;> try simp only [go_sem, hb, h1, hg, hsz, hlt, hil, hi]) | (with_reducible refine draw_at 0 20 (by with_unfolding_all rfl) [(0, true, true), (2, true, false), (3, true, false), (5, true, false), (6, true, false), (1, false, false), (4, false, false), (7, false, false)] (by kernel_rfl) ?_ <;> try simp only [go_sem, h1, hg, hsz, hlt, hil, hi]) | (with_reducible refine draw_at 0 36 (by with_unfolding_all rfl) [(0, true, true), (1, true, true), (2, true, false), (3, true, false), (8, true, false), (4, false, false), (5, false, false), (6, false, false), (7, false, false), (9, false, false), (10, false, true), (11, false, true), (12, false, true)] (by kernel_rfl) ?_ <;> try simp only [go_sem, h1, hg, hsz, hlt, hil, hi]) | (refine call_c (c_fileAt d name hn _ ?_) <;> try simp only [go_sem, h1, hg, hsz, hlt, hil, hi]) | (fail))
    refine hQO [2] _ _ (GC.step (Ghost.cut (l := 2) rfl d.files.length) (GC.now ?_)) <;> simp only [Try.f52, go_sem, List.nodup_cons, List.nodup_nil, List.mem_cons, List.not_mem_nil, or_false, not_false_eq_true, List.idxOf?_cons, List.idxOf?_nil, Option.map_none, htk]
    exact hk
end Go.Proofs.Ytaahlnjldenhpaa
