/- OpenDisk: a law's disk, laid open out of the memory that it is handed. Conditions: none. -/
import Derived.Test.YtjfmfcdempkpdaaAC
import Derived.Test.YtjfmfcdempkpdaaT
import Derived.Test.YtjfmfcdempkpdaaSegsFromLaw
import Derived.Deep.Strs
import Derived.Deep.Slices
import Derived.SizedLaws
import Derived.Lib.SmallJoins
import Derived.ChangeShapes
import Derived.WideShapes
namespace Go.Proofs.Ytjfmfcdempkpdaa
open Go.AL Go.RowKit
set_option linter.unusedVariables false
set_option linter.unusedSimpArgs false
attribute [local go_sem] g_skip g_region g_draw g_seq g_cond g_block g_loop g_exit g_ret n_nil n_seq n_seq_e n_seq_r n_inv n_inv_e n_inv_r n_blk n_blk_r n_blk_e n_blk_ne c_true c_false r_nil r_cons r_want w_tt w_ff w_tf w_ft w_u ds_mk gs_at gs_some k_some k_none k_dr k_dr_none k_dr_p k_dr_pn u_eq u_ne e_tmp e_const e_func v_int v_bool v_string v_slice f_zero f_succ On_some o_move o_assign o_pick pick_t pick_f o_alloc new_some o_box box_some v_some ld_any cs_ro cs_own o_load load_ptr o_store store_ptr set_some o_fieldAddr fa_ptr o_field fd_agg o_indexAddr ia_sl ia_slc o_index ix_str o_bin b_add b_sub b_mul b_quo b_rem b_eql b_neq b_lss b_leq b_gtr b_geq b_beql b_bneq b_seql b_sneq b_sadd b_aeql b_aneq aq_f aq_t eq_nil and2_some eq_cons ef_some ev_int ev_str ev_bool b_nn b_sn b_nn' b_sn' o_un un_not un_neg o_extract ex_tup o_nilCheck nc_ptr o_len ln_str ln_nil ln_sl ln_slc o_call ca_fn ca_clo c_val c_int c_bool c_str c_nil c_ptr c_sl c_slc c_clo c_agg p_any p_one p_agg h_cons h_len h_at h_at0 h_set h_set0 cset_nil cset_cons cons2_some rs_nil rs_cons rs_tmp rs_cell rc_ptr ret_p ret_g ret_g0 ot_1 ot_2 pv_c pv_agg pvs_nil pvs_int pvs_bool pvs_str pt_nil pt_cons pt2_some fl_nil fl_cons fl2_some o_build bd_some ag_some fs_nil fs_cons o_buildSlice bs_some bs2_some bs3_some rep_zero rep_succ le_maxLen o_makeSlice mk_some mk2_some bd_none bd_int o_slice sl_str ss_some sl_sl cap_nil cap_cons cap2_some o_makeFunc mf_some o_convert cv_int ci_some cv_str cs_ss cs_sb cv_sl cv_slc cv_nil sb_some so_some is_nil is_cons ics2_some o_append ap_some ap3_some row_sl row_slc row_nil row_str rw_some kill_len kill_app kill_app0 kill_cons o_min o_max mm_f mm_t d_nil d_cons d_op d_want held_some d_tk d_tw tk_v tk_l tw_tt tw_ff tw_tf tw_ft tw_u t_move t_assign t_pick tp_t tp_f vl_some t_load tl_ptr t_fieldAddr tf_ptr t_indexAddr ti_sl t_bin tb_add tb_sub tb_mul tb_eql tb_neq tb_lss tb_leq tb_gtr tb_geq t_un tu_not t_extract t_len tn_str tn_nil tn_sl te_tup mv_c mv_sl mv_sl0 mv_one mv_agg mv_tup mvs_nil mvs_cons at_int at_bool at_str at_sl at_sl0 at_one at_agg at_tup ats_nil ats_cons
attribute [local go_sem] List.map_cons List.map_nil List.getElem?_cons_zero List.getElem?_cons_succ Option.map_some List.length_cons List.length_nil List.cons_append List.nil_append ds_mk Option.bind_some List.set_cons_zero List.set_cons_succ List.getElem?_toArray List.size_toArray Array.size_empty List.forall_mem_cons List.drop_zero List.drop_succ_cons List.take_succ_cons List.take_zero List.take_nil Nat.le_refl Option.isSome_some ne_eq not_false_eq_true Bool.and_true Bool.true_or Bool.false_or Bool.or_false Bool.or_true List.not_mem_nil false_implies implies_true Int.toNat_natCast Int.natCast_nonneg ite_true if_true true_and and_true and_self Nat.add_zero Nat.zero_add
attribute [local go_sem] ag2 sz2 by2 ze2 ki2 us2 ag3 sz3 by3 ze3 ki3 us3 ag4 sz4 by4 ze4 bo4 ag5 sz5 by5 ze5 ki5 us5 ag6 sz6 by6 ze6 ki6 us6 ag7 sz7 by7 ze7 of7_0 of7_1 of7_2 of7_3 pl7 eq7 ag8 sz8 by8 ze8 of8_0 of8_1 of8_2 of8_3 pl8 eq8 ag9 sz9 by9 ze9 el9 st9 ag10 sz10 by10 ze10 el10 st10 ag11 sz11 by11 ze11 el11 st11 ag12 sz12 by12 ze12 ki12 us12 ag13 sz13 by13 ze13 of13_0 of13_1 pl13 ag14 sz14 by14 ze14 of14_0 of14_1 pl14 ag15 sz15 by15 ag16 sz16 by16 ag17 sz17 by17 ag18 sz18 by18 of18_0 pl18 ag19 sz19 by19 of19_0 pl19 ag21 sz21 by21 ze21 ki21 us21 ag22 sz22 by22 ze22 of22_0 of22_1 of22_2 of22_3 pl22 eq22 ag23 sz23 by23 ze23 of23_0 of23_1 of23_2 of23_3 pl23 eq23 ag26 sz26 by26 ze26 of26_0 of26_1 of26_2 of26_3 pl26 eq26 ag29 sz29 by29 ze29 el29 st29 ag30 sz30 by30 ze30 of30_0 of30_1 pl30 ag31 sz31 by31 ze31 of31_0 of31_1 pl31 ag33 sz33 by33 ze33 el33 st33 ag35 sz35 by35 ze35 el35 st35 ag36 sz36 by36 ze36 of36_0 of36_1 pl36 ag37 sz37 by37 ze37 of37_0 of37_1 pl37 ag47 sz47 by47 ze47 el47 st47 ag54 sz54 by54 ze54 el54 st54 ag75 sz75 by75 ze75 of75_0 of75_1 of75_2 pl75 eq75 ag76 sz76 by76 ze76 of76_0 of76_1 of76_2 pl76 eq76 ag83 sz83 by83 ag97 sz97 by97 ze97 of97_0 of97_1 of97_2 pl97 eq97
set_option maxRecDepth 100000
open Go.ChangeShapes Go.WideShapes Go.ChangeAt Go.Joins Go.Deep
theorem mem_weightsAll {H : Type} {P : Program} {e : TypeId} : ∀ {ds : List (DataW H)} {i : Nat} {d : DataW H}, ds[i]? = some d → ∀ n ∈ d.weights P e, n ∈ DataW.weightsAll P e ds
  | [], i, d, h, _, _ => by simp at h
  | x :: r, 0, d, h, n, hn => by
    simp at h; subst h
    rw [DataW.weightsAll]
    exact List.mem_append_left _ hn
  | x :: r, i + 1, d, h, n, hn => by
    rw [DataW.weightsAll]
    exact List.mem_append_right _ (mem_weightsAll (by simpa using h) n hn)
/-- One file of a law's disk. -/
theorem open_file {H : Type} {enc : TypeId × Value → H} {W : World} {base fuel : Nat} {sp : Nat → Bool} {hd : Bool} {cs : List Value} {x : DataW H × List MemPlace} (hl : cs.length = 3) (h : DataW.trod enc Try.prog W base sp hd fuel 97 cs = some x) (hw : ∀ n ∈ x.1.weights Try.prog 97, n ≤ reachBytes) :
    ∃ f : FileL, cs = [.int .i64 f.name, .string f.safe, .string f.late] ∧ f.safe.size ≤ 1000000000000000 ∧ f.late.size ≤ 1000000000000000 := by
  match cs, hl with
  | [u, v, w], _ =>
    obtain ⟨y0, y1, y2, m, rfl, _, h0, h1, h2⟩ := trod_struct3 Try.underlying97 h
    have e3 : Try.prog.cellsOf 3 = 1 := by kernel_rfl
    have e9 : Try.prog.cellsOf 9 = 1 := by kernel_rfl
    simp only [e3, e9, List.drop_zero, List.drop_succ_cons, List.take_succ_cons, List.take_zero] at h0 h1 h2
    obtain ⟨a, rfl, _⟩ := one_int Try.underlying3 h0
    obtain ⟨b, hb, eb, _⟩ := DataW.trod_string Try.underlying9 h1
    obtain ⟨c, hc, ec, _⟩ := DataW.trod_string Try.underlying9 h2
    simp at hb hc
    subst hb hc
    refine ⟨⟨a, b, c⟩, rfl, ?_, ?_⟩
    · have := hw b.data.toList.length (by
        rw [eb]
        simp [DataW.weights, Try.underlying97, DataW.weightsEach])
      have hr : reachBytes ≤ 1000000000000000 := by decide
      simp at this
      exact Nat.le_trans this hr
    · have := hw c.data.toList.length (by
        rw [ec]
        simp [DataW.weights, Try.underlying97, DataW.weightsEach])
      have hr : reachBytes ≤ 1000000000000000 := by decide
      simp at this
      exact Nat.le_trans this hr
/-- Files as memory shows them. -/
def ShowsF (W : World) (sv : Value) (fs : List FileL) : Prop :=
  (sv = .slice none 0 0 ∧ fs = []) ∨ ∃ b o cap, sv = .slice (some ⟨b, o, none⟩) fs.length cap ∧ b < W.heap.size ∧ fs.length ≤ cap ∧ ∀ (j : Nat) (x : CV), (filesC fs)[j]? = some x → ∃ v, x = .c v ∧ W.cell? ⟨b, o + j, none⟩ = some v
theorem filesC_get : ∀ (fs : List FileL) (j : Nat) (x : CV), (filesC fs)[j]? = some x → ∃ i k, k < 3 ∧ j = i * 3 + k ∧ ∃ hi : i < fs.length, (fileC fs[i])[k]? = some x
  | [], j, x, h => by simp [filesC] at h
  | f :: r, j, x, h => by
    rw [filesC] at h
    rcases Nat.lt_or_ge j 3 with h3 | h3
    · rw [List.getElem?_append_left (by simpa [fileC] using h3)] at h
      exact ⟨0, j, h3, by omega, by simp, h⟩
    · rw [List.getElem?_append_right (by simpa [fileC] using h3)] at h
      obtain ⟨i, k, hk, hj, hi, hx⟩ := filesC_get r (j - 3) x (by simpa [fileC] using h)
      exact ⟨i + 1, k, hk, by omega, by simpa using hi, hx⟩
theorem open_disk {H : Type} {enc : TypeId × Value → H} {W : World} {v : Value} {d : DataW H} {p : List MemPlace} {hd : Bool} (hok : Value.okWide Try.prog W .any 0 31 v) (h : DataW.Trod enc Try.prog W 0 (fun _ => true) hd 31 v d p) (hw : ∀ n ∈ d.weights Try.prog 31, n ≤ reachBytes) :
    ∃ room sv fs, v = .agg #[.int .i64 room, sv] ∧ SizedF fs ∧ fs.length ≤ 1000000000000000 ∧ ShowsF W sv fs := by
  have c29 : Try.prog.cellsOf 97 = 3 := by kernel_rfl
  obtain ⟨v0, v1, y0, y1, m, rfl, rfl, _, e0, e1⟩ := open_agg2 Try.underlying31 (by kernel_rfl) (by kernel_rfl) hok h
  obtain ⟨room, rfl, _⟩ := one_int Try.underlying3 e0
  have hok1 : Cell.okWide Try.prog W .any 0 29 v1 := by
    have q := hok
    simp only [Value.okWide, Try.underlying31] at q
    obtain ⟨cs, hcs, _, ts, hts, _, hc⟩ := q
    have hts' : Try.prog.cellTypes Try.prog.depth 31 = some [3, 29] := by kernel_rfl
    rw [hts'] at hts
    cases hts
    cases hcs
    obtain ⟨u, hu, hc⟩ := hc 1 v1 rfl
    simp at hu
    subst hu
    exact hc
  rcases Deep.open_slice Try.underlying29 e1 with ⟨hcs, _⟩ | ⟨a, len, cap, m2, n, D, Pl, hcs, _, hlc, hcm, hm, hx, hall⟩
  · simp at hcs
    subst hcs
    exact ⟨room, _, [], rfl, by intro f hf; simp at hf, by simp, .inl ⟨rfl, rfl⟩⟩
  · simp at hcs
    subst hcs
    have hm2 : m2 = cap := by simpa using hm
    subst hm2
    have hhas : a.spot = none ∧ a.block < W.heap.size := by
      simp only [Cell.okWide, Try.underlying29, Cell.ok] at hok1
      obtain ⟨_, _, _, hs, row, cells, hsh, _⟩ := hok1
      refine ⟨hs, ?_⟩
      unfold World.shape? at hsh
      split at hsh
      · rename_i q; exact (Array.getElem?_eq_some_iff.1 q).1
      · cases hsh
    obtain ⟨b, o, s⟩ := a
    obtain ⟨hs, hb⟩ := hhas
    simp only at hs hb
    subst hs
    have hy1 : y1.1 = .slice ((List.range len).map D) ((List.range (m2 - len)).map fun j => D (len + j)) := by rw [hx]
    have hwt : ∀ i, i < len → ∀ n ∈ (D i).weights Try.prog 97, n ≤ reachBytes := by
      intro i hi n hn
      refine hw n ?_
      simp only [DataW.weights, Try.underlying31, List.map_cons, List.map_nil, DataW.weightsEach, hy1, Try.underlying29]
      refine List.mem_append_right _ (List.mem_append_left _ (List.mem_cons_of_mem _ (List.mem_append_left _ ?_)))
      exact mem_weightsAll (i := i) (d := D i) (by simp [hi]) n hn
    have hln : len ≤ 1000000000000000 := by
      have := hw ((len + (m2 - len)) * Try.prog.bytesOf 97) (by
        simp only [DataW.weights, Try.underlying31, List.map_cons, List.map_nil, DataW.weightsEach, hy1, Try.underlying29]
        refine List.mem_append_right _ (List.mem_append_left _ ?_)
        simp)
      have h40 : Try.prog.bytesOf 97 = 40 := by kernel_rfl
      have hr : reachBytes ≤ 1000000000000000 := by decide
      rw [h40] at this
      omega
    have hf : ∀ i : Nat, ∃ f : FileL, i < len → (∀ k, k < 3 → W.cell? ⟨b, o + (i * 3 + k), none⟩ = [Value.int .i64 f.name, .string f.safe, .string f.late][k]?) ∧ f.safe.size ≤ 1000000000000000 ∧ f.late.size ≤ 1000000000000000 := by
      intro i
      by_cases hi : i < len
      · obtain ⟨cs', hcells, htr⟩ := hall i (by omega)
        rw [c29] at hcells
        obtain ⟨_, hl3, hcell⟩ := World.cells?_some hcells
        obtain ⟨f, rfl, hs1, hs2⟩ := open_file hl3 htr (hwt i hi)
        refine ⟨f, fun _ => ⟨fun k hk => ?_, hs1, hs2⟩⟩
        have := hcell k hk
        rw [add_lit, add_lit, Nat.add_assoc] at this
        exact this
      · exact ⟨⟨0, ByteArray.empty, ByteArray.empty⟩, fun q => absurd q hi⟩
    obtain ⟨g, hg⟩ := Classical.axiomOfChoice hf
    refine ⟨room, _, (List.range len).map g, rfl, ?_, by simpa using hln, .inr ⟨b, o, m2, by simp, hb, by simpa using hlc, ?_⟩⟩
    · intro f hf'
      obtain ⟨i, hi, rfl⟩ := List.mem_map.1 hf'
      exact (hg i (by simpa using hi)).2
    · intro j x hjx
      obtain ⟨i, k, hk, rfl, hi, hx'⟩ := filesC_get _ j x hjx
      have hi' : i < len := by simpa using hi
      have hcell := (hg i hi').1 k hk
      simp only [List.getElem_map, List.getElem_range] at hx'
      rcases k with _ | _ | _ | k
      · simp [fileC] at hx'; subst hx'; exact ⟨_, rfl, hcell⟩
      · simp [fileC] at hx'; subst hx'; exact ⟨_, rfl, hcell⟩
      · simp [fileC] at hx'; subst hx'; exact ⟨_, rfl, hcell⟩
      · omega
theorem rep_disk {W : World} {sv : Value} {fs : List FileL} (hs : ShowsF W sv fs) : ∃ (h : AH) (φ : Phi) (x : CV), Rep W.heap.size W φ h W ∧ x.conc φ = sv ∧ SeesF h x fs ∧ x.wf h.length := by
  rcases hs with ⟨rfl, rfl⟩ | ⟨b, o, cap, rfl, hb, hlc, hcell⟩
  · exact ⟨[], fun _ => ⟨0, 0, 0⟩, .c (.slice none 0 0), rep_nil W _, rfl, .inl ⟨rfl, rfl⟩, rfl⟩
  · refine ⟨[.ro (filesC fs)], fun _ => ⟨b, o, cap * 3⟩, .sl 0 3 0 fs.length, ⟨Below.refl W.heap.size W, Nat.le_refl _, ?_, ?_, ?_⟩, ?_, ?_, ?_⟩
    · intro l ob hl
      rcases l with _ | l
      · simp at hl
        subst hl
        refine ⟨⟨hb, by rw [filesC_len]; exact Nat.mul_le_mul_right 3 hlc⟩, fun j x hj => ?_⟩
        obtain ⟨v, rfl, hv⟩ := hcell j x hj
        exact hv
      · simp at hl
    · intro l ob hl
      rcases l with _ | l
      · simp at hl
        subst hl
        exact pvs_wf (pvs_files fs) _
      · simp at hl
    · intro i j oi oj hi hj hoi hoj hne
      rcases i with _ | i
      · simp at hi; subst hi; cases hoi
      · simp at hi
    · simp [CV.conc, adr]
    · refine .inr ⟨0, 0, _, rfl, rfl, by simp [AO.cs, filesC_len], by simp only [AO.cs, List.drop_zero]; rw [List.take_of_length_le (by rw [filesC_len]; exact Nat.le_refl _)]⟩
    · show 0 < 1; omega
end Go.Proofs.Ytjfmfcdempkpdaa
