/- Itoa: what strconv.Itoa, strconv.Atoi and strings.TrimPrefix answer, told by content. Conditions: the package's table and its two errors stand as the row lists them. -/
import Derived.Test.YtaahlnjldenhpaaDoorLG
import Derived.Test.YtaahlnjldenhpaaDoorLT
import Derived.Test.YtaahlnjldenhpaaDoorLDeed
import Derived.Shelf.Strconv.Itoa3
import Derived.Shelf.Strconv.ErrVarAll
import Derived.Shelf.Strings.Prefix
import Derived.Shelf.Lay
import Derived.Ground.NamesProg
namespace Go.Proofs.YtaahlnjldenhpaaDoor
open Go.BL Go.RowKit
set_option linter.unusedVariables false
set_option linter.unusedSimpArgs false
set_option maxRecDepth 100000

open Go.Shelf
shelf_lay LaysM.n171 Nm 171 at Tryd as Tryd.laysItoa
shelf_lay LaysC.n172 Nm 172 at Tryd as Tryd.laysAtoi
shelf_lay Lays.n101 Nm 101 at Tryd as Tryd.laysTrim
def bT (l : List UInt8) : ByteArray := ⟨l.toArray⟩
theorem bT_list (s : ByteArray) : bT s.data.toList = s := by cases s; simp [bT]
theorem list_bT (l : List UInt8) : (bT l).data.toList = l := by simp [bT]
theorem tab_pow {φ : Phi} {M : Im} {h : AH} {w : World} {G : Cx} (R : Rep G φ M h w) : Lib.TabIs Tryd.prog w "internal/strconv.uint64pow10" .u64 Lib.pow10Tab := by
  have H : TabG ⟨w, fun _ => False, M⟩ := R.tab fun _ _ q => q
  obtain ⟨_, _, t, fr, h3⟩ := H 2 rfl
  have hg : Tryd.prog.globalNamed "internal/strconv.uint64pow10" = some 2 := by kernel_rfl
  unfold Lib.TabIs World.var?
  rw [hg]
  show (match w.heap[2]? with | some (.cells cs _ _) => some cs | _ => none) = _
  rw [show w.heap[2]? = _ from h3]
  rfl
theorem arg1 {φ : Phi} {M : Im} {v : Value} {us : List Value} (h : VAs φ M [.one (.c v)] us) : us = [v] := by
  obtain ⟨hl, h⟩ := h
  obtain ⟨u, hu, hv⟩ := h 0 _ rfl
  have := VA_c hv
  subst this
  match us, hl, hu with
  | [x], _, hu => simp at hu; rw [hu]
theorem c_Itoa (n : Int) (h0 : -9223372036854775808 ≤ n) (h1 : n ≤ 9223372036854775807) (K : AV → AH → Prop) (hk : K (.one (.c (.string (bT (Lib.itoa n))))) []) : ACalls Tryd.prog 19 [(.one (.c (.int .i64 (n))))] [] K := by
  refine ⟨by kernel_rfl, fun φ M w us R hus => ?_⟩
  have e := arg1 hus
  subst e
  refine (show Calls Tryd.prog 19 #[.int .i64 n] w _ from Any.strconv_Itoa Tryd.laysItoa n h0 h1 w (tab_pow R)).mono ?_
  rintro e w' ⟨rfl, k, os, rfl⟩
  refine ⟨_, _, _, φ, M, rfl, mk_c _, hk, R.grow rfl rfl rfl ?_ ?_, Le.refl _⟩
  · show w.heap.size ≤ (w.heap ++ os).size
    rw [Array.size_append]; omega
  · intro b hb
    show (w.heap ++ os)[b]? = w.heap[b]?
    exact Array.getElem?_append_left hb
end Go.Proofs.YtaahlnjldenhpaaDoor
