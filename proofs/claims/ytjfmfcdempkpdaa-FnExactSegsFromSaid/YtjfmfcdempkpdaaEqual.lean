/- Equal: what the laws' own comparisons and marks of disks and of whole numbers compute. Conditions: none. -/
import Derived.Test.YtjfmfcdempkpdaaAC
import Derived.Test.YtjfmfcdempkpdaaT
import Derived.Test.YtjfmfcdempkpdaaCopies
namespace Go.Proofs.Ytjfmfcdempkpdaa
open Go.AL Go.RowKit
set_option linter.unusedVariables false
set_option linter.unusedSimpArgs false
attribute [local go_sem] g_skip g_region g_draw g_seq g_cond g_block g_loop g_exit g_ret n_nil n_seq n_seq_e n_seq_r n_inv n_inv_e n_inv_r n_blk n_blk_r n_blk_e n_blk_ne c_true c_false r_nil r_cons r_want w_tt w_ff w_tf w_ft w_u ds_mk gs_at gs_some k_some k_none k_dr k_dr_none k_dr_p k_dr_pn u_eq u_ne e_tmp e_const e_func v_int v_bool v_string v_slice f_zero f_succ On_some o_move o_assign o_pick pick_t pick_f o_alloc new_some o_box box_some v_some ld_any cs_ro cs_own o_load load_ptr o_store store_ptr set_some o_fieldAddr fa_ptr o_field fd_agg o_indexAddr ia_sl ia_slc o_index ix_str o_bin b_add b_sub b_mul b_quo b_rem b_eql b_neq b_lss b_leq b_gtr b_geq b_beql b_bneq b_seql b_sneq b_sadd b_aeql b_aneq aq_f aq_t eq_nil and2_some eq_cons ef_some ev_int ev_str ev_bool b_nn b_sn b_nn' b_sn' o_un un_not un_neg o_extract ex_tup o_nilCheck nc_ptr o_len ln_str ln_nil ln_sl ln_slc o_call ca_fn ca_clo c_val c_int c_bool c_str c_nil c_ptr c_sl c_slc c_clo c_agg p_any p_one p_agg h_cons h_len h_at h_at0 h_set h_set0 cset_nil cset_cons cons2_some rs_nil rs_cons rs_tmp rs_cell rc_ptr ret_p ret_g ret_g0 ot_1 ot_2 pv_c pv_agg pvs_nil pvs_int pvs_bool pvs_str pt_nil pt_cons pt2_some fl_nil fl_cons fl2_some o_build bd_some ag_some fs_nil fs_cons o_buildSlice bs_some bs2_some bs3_some rep_zero rep_succ le_maxLen o_makeSlice mk_some mk2_some bd_none bd_int o_slice sl_str ss_some sl_sl cap_nil cap_cons cap2_some o_makeFunc mf_some o_convert cv_int ci_some cv_str cs_ss cs_sb cv_sl cv_slc cv_nil sb_some so_some is_nil is_cons ics2_some o_append ap_some ap3_some row_sl row_slc row_nil row_str rw_some kill_len kill_app kill_app0 kill_cons o_min o_max mm_f mm_t d_nil d_cons d_op d_want held_some d_tk d_tw tk_v tk_l tw_tt tw_ff tw_tf tw_ft tw_u t_move t_assign t_pick tp_t tp_f vl_some t_load tl_ptr t_fieldAddr tf_ptr t_indexAddr ti_sl t_bin tb_add tb_sub tb_mul tb_eql tb_neq tb_lss tb_leq tb_gtr tb_geq t_un tu_not t_extract t_len tn_str tn_nil tn_sl te_tup mv_c mv_sl mv_sl0 mv_one mv_agg mv_tup mvs_nil mvs_cons at_int at_bool at_str at_sl at_sl0 at_one at_agg at_tup ats_nil ats_cons
attribute [local go_sem] List.map_cons List.map_nil List.getElem?_cons_zero List.getElem?_cons_succ Option.map_some List.length_cons List.length_nil List.cons_append List.nil_append ds_mk Option.bind_some List.set_cons_zero List.set_cons_succ List.getElem?_toArray List.size_toArray Array.size_empty List.forall_mem_cons List.drop_zero List.drop_succ_cons List.take_succ_cons List.take_zero List.take_nil Nat.le_refl Option.isSome_some ne_eq not_false_eq_true Bool.and_true Bool.true_or Bool.false_or Bool.or_false Bool.or_true List.not_mem_nil false_implies implies_true Int.toNat_natCast Int.natCast_nonneg ite_true if_true true_and and_true and_self Nat.add_zero Nat.zero_add
attribute [local go_sem] ag2 sz2 by2 ze2 ki2 us2 ag3 sz3 by3 ze3 ki3 us3 ag4 sz4 by4 ze4 bo4 ag5 sz5 by5 ze5 ki5 us5 ag6 sz6 by6 ze6 ki6 us6 ag7 sz7 by7 ze7 of7_0 of7_1 of7_2 of7_3 pl7 eq7 ag8 sz8 by8 ze8 of8_0 of8_1 of8_2 of8_3 pl8 eq8 ag9 sz9 by9 ze9 el9 st9 ag10 sz10 by10 ze10 el10 st10 ag11 sz11 by11 ze11 el11 st11 ag12 sz12 by12 ze12 ki12 us12 ag13 sz13 by13 ze13 of13_0 of13_1 pl13 ag14 sz14 by14 ze14 of14_0 of14_1 pl14 ag15 sz15 by15 ag16 sz16 by16 ag17 sz17 by17 ag18 sz18 by18 of18_0 pl18 ag19 sz19 by19 of19_0 pl19 ag21 sz21 by21 ze21 ki21 us21 ag22 sz22 by22 ze22 of22_0 of22_1 of22_2 of22_3 pl22 eq22 ag23 sz23 by23 ze23 of23_0 of23_1 of23_2 of23_3 pl23 eq23 ag26 sz26 by26 ze26 of26_0 of26_1 of26_2 of26_3 pl26 eq26 ag29 sz29 by29 ze29 el29 st29 ag30 sz30 by30 ze30 of30_0 of30_1 pl30 ag31 sz31 by31 ze31 of31_0 of31_1 pl31 ag33 sz33 by33 ze33 el33 st33 ag35 sz35 by35 ze35 el35 st35 ag36 sz36 by36 ze36 of36_0 of36_1 pl36 ag37 sz37 by37 ze37 of37_0 of37_1 pl37 ag47 sz47 by47 ze47 el47 st47 ag54 sz54 by54 ze54 el54 st54 ag75 sz75 by75 ze75 of75_0 of75_1 of75_2 pl75 eq75 ag76 sz76 by76 ze76 of76_0 of76_1 of76_2 pl76 eq76 ag83 sz83 by83 ag97 sz97 by97 ze97 of97_0 of97_1 of97_2 pl97 eq97
set_option maxRecDepth 100000
def SeesI (h : AH) (x : CV) (ns : List Int) : Prop :=
  (x = .c (.slice none 0 0) ∧ ns = []) ∨ ∃ l off o, x = .sl l 1 off ns.length ∧ h[l]? = some o ∧ off + ns.length ≤ o.cs.length ∧ (o.cs.drop off).take ns.length = intsC ns
theorem I_at {cs : List CV} {off : Nat} {ns : List Int} (hle : off + ns.length ≤ cs.length) (hc : (cs.drop off).take ns.length = intsC ns) (i : Nat) (hi : i < ns.length) : cs[off + i]? = some (.c (.int .i64 ns[i])) := by
  have : (intsC ns)[i]? = some (.c (.int .i64 ns[i])) := by simp [intsC, hi]
  rw [← hc, List.getElem?_take, if_pos hi, List.getElem?_drop] at this
  exact this
theorem ln_seesI {h : AH} {x : CV} {ns : List Int} (hx : SeesI h x ns) (t : TypeId) (ht : (elemA Try.prog t).isSome = true) (h1 : AH) (k : Ko) : lnG Try.prog t (.one x) h1 k = kr Try.prog k (.one (.c (.int .i64 ns.length))) h1 := by
  rcases hx with ⟨rfl, rfl⟩ | ⟨l, off, o, rfl, ho, hle, hc⟩
  · exact ln_nil _ _ _ _ ht
  · exact ln_sl _ _ _ _ _ _ _ _ ht
theorem seesI_pos {h : AH} {x : CV} {ns : List Int} (hx : SeesI h x ns) {i : Nat} (hi : i < ns.length) : ∃ l off o, x = .sl l 1 off ns.length ∧ h[l]? = some o ∧ off + ns.length ≤ o.cs.length ∧ (o.cs.drop off).take ns.length = intsC ns := by
  rcases hx with ⟨rfl, rfl⟩ | h
  · simp at hi
  · exact h
theorem c20 (x y : CV) (ns : List Int) (h : AH) (K : AV → AH → Prop) (hx : SeesI h x ns) (hy : SeesI h y ns) (hn : ns.length ≤ 1000000000) (hk : K (.one (.c (.bool true))) h) : ACalls Try.prog 20 [.one x, .one y] h K := by
  refine acall_p Try.f20.results.toList mixed Try.func20 rfl rfl (by kernel_rfl) ?_
  intro Q hQ
  simp only [go_sem, Nat.reduceBEq, Nat.reduceAdd, Nat.reduceLeDiff, Nat.reduceMul, Nat.reduceSub, Nat.reduceLT, Int.reduceEq, ln_seesI hx, ln_seesI hy, BEq.rfl, Bool.not_true]
  refine loop_at (fun k f h1 => ∃ (i : Nat), k = ns.length - i ∧ i ≤ ns.length ∧ f 0 = .one x ∧ f 1 = .one y ∧ f 5 = .one (.c (.int .i64 i)) ∧ h1 = h) ns.length ?_ ?_
  · refine ⟨0, rfl, Nat.zero_le _, ?_⟩
    simp only [go_sem, Nat.reduceBEq, Nat.reduceAdd, Nat.reduceLeDiff, Nat.reduceMul, Nat.reduceSub, Nat.reduceLT, Int.reduceEq]
    simp
  · rintro k f h1 J hJ ⟨i, rfl, hi, e0, e1, e5, rfl⟩
    simp only [go_sem, Nat.reduceBEq, Nat.reduceAdd, Nat.reduceLeDiff, Nat.reduceMul, Nat.reduceSub, Nat.reduceLT, Int.reduceEq, e0, e1, e5, ln_seesI hx]
    refine c_split (fun hb => ?_) (fun hb => ?_) <;> simp only [go_sem, Nat.reduceBEq, Nat.reduceAdd, Nat.reduceLeDiff, Nat.reduceMul, Nat.reduceSub, Nat.reduceLT, Int.reduceEq, hb, e0, e1, e5]
    · have hi : i < ns.length := by simpa using hb
      obtain ⟨l, off, o, rfl, ho, hle, hc⟩ := seesI_pos hx hi
      obtain ⟨l2, off2, o2, rfl, ho2, hle2, hc2⟩ := seesI_pos hy hi
      have q0 := I_at hle hc i hi
      have q1 := I_at hle2 hc2 i hi
      first | (with_reducible refine draw_at 0 17 (by with_unfolding_all rfl) [(0, true, true), (1, true, false), (2, true, true), (3, true, false), (4, true, false), (5, false, false), (6, false, false), (7, false, false), (8, false, false)] (by kernel_rfl) ?_)
      simp only [go_sem, Nat.reduceBEq, Nat.reduceAdd, Nat.reduceLeDiff, Nat.reduceMul, Nat.reduceSub, Nat.reduceLT, Int.reduceEq, e0, e1, e5, ho, ho2, q0, q1, Int.ofNat_lt, hi, Nat.mul_one, BEq.rfl, Bool.not_true]
      refine hJ (ns.length - (i + 1)) _ _ (by omega) ⟨i + 1, rfl, hi, by simp only [go_sem, Nat.reduceBEq, Nat.reduceAdd, Nat.reduceLeDiff, Nat.reduceMul, Nat.reduceSub, Nat.reduceLT, Int.reduceEq, e0], by simp only [go_sem, Nat.reduceBEq, Nat.reduceAdd, Nat.reduceLeDiff, Nat.reduceMul, Nat.reduceSub, Nat.reduceLT, Int.reduceEq, e1], ?_, rfl⟩
      simp only [go_sem, Nat.reduceBEq, Nat.reduceAdd, Nat.reduceLeDiff, Nat.reduceMul, Nat.reduceSub, Nat.reduceLT, Int.reduceEq, e5]
      congr 3; unfold wrap64; omega
    · refine hQ _ _ ?_
      simp only [go_sem, Nat.reduceBEq, Nat.reduceAdd, Nat.reduceLeDiff, Nat.reduceMul, Nat.reduceSub, Nat.reduceLT, Int.reduceEq, Try.f20]
      exact hk
theorem c100 (f : FileL) (h : AH) (K : AV → AH → Prop) (hk : K (.one (.c (.bool true))) h) : ACalls Try.prog 100 [.agg [.c (.int .i64 f.name), .c (.string f.safe), .c (.string f.late)], .agg [.c (.int .i64 f.name), .c (.string f.safe), .c (.string f.late)]] h K := by
  refine acall_p Try.f100.results.toList mixed Try.func100 rfl rfl (by kernel_rfl) ?_
  intro Q hQ
  simp only [go_sem, Nat.reduceBEq, Nat.reduceAdd, Nat.reduceLeDiff, Nat.reduceMul, Nat.reduceSub, Nat.reduceLT, Int.reduceEq, BEq.rfl, Bool.not_true]
  repeat' (first | (with_reducible refine c_split (fun hb => ?_) (fun hb => ?_) <;> try simp only [go_sem, Nat.reduceBEq, Nat.reduceAdd, Nat.reduceLeDiff, Nat.reduceMul, Nat.reduceSub, Nat.reduceLT, Int.reduceEq, hb, BEq.rfl, Bool.not_true]) | (with_reducible refine w_split (fun hb => ?_) (fun hb => ?_) <;> try simp only [go_sem, Nat.reduceBEq, Nat.reduceAdd, Nat.reduceLeDiff, Nat.reduceMul, Nat.reduceSub, Nat.reduceLT, Int.reduceEq, hb, BEq.rfl, Bool.not_true]) | (with_reducible refine hQ _ _ ?_ <;> simp only [Try.f100, go_sem, Nat.reduceBEq, Nat.reduceAdd, Nat.reduceLeDiff, Nat.reduceMul, Nat.reduceSub, Nat.reduceLT, Int.reduceEq, BEq.rfl, Bool.not_true]))
  exact hk
theorem c64 (x y : CV) (fs : List FileL) (h : AH) (K : AV → AH → Prop) (hx : SeesF h x fs) (hy : SeesF h y fs) (hn : fs.length ≤ 1000000000) (hk : K (.one (.c (.bool true))) h) : ACalls Try.prog 64 [.one x, .one y] h K := by
  refine acall_p Try.f64.results.toList mixed Try.func64 rfl rfl (by kernel_rfl) ?_
  intro Q hQ
  simp only [go_sem, Nat.reduceBEq, Nat.reduceAdd, Nat.reduceLeDiff, Nat.reduceMul, Nat.reduceSub, Nat.reduceLT, Int.reduceEq, ln_sees hx, ln_sees hy, BEq.rfl, Bool.not_true]
  refine loop_at (fun k f h1 => ∃ (i : Nat), k = fs.length - i ∧ i ≤ fs.length ∧ f 0 = .one x ∧ f 1 = .one y ∧ f 5 = .one (.c (.int .i64 i)) ∧ h1 = h) fs.length ?_ ?_
  · refine ⟨0, rfl, Nat.zero_le _, ?_⟩
    simp only [go_sem, Nat.reduceBEq, Nat.reduceAdd, Nat.reduceLeDiff, Nat.reduceMul, Nat.reduceSub, Nat.reduceLT, Int.reduceEq]
    simp
  · rintro k f h1 J hJ ⟨i, rfl, hi, e0, e1, e5, rfl⟩
    simp only [go_sem, Nat.reduceBEq, Nat.reduceAdd, Nat.reduceLeDiff, Nat.reduceMul, Nat.reduceSub, Nat.reduceLT, Int.reduceEq, e0, e1, e5, ln_sees hx]
    refine c_split (fun hb => ?_) (fun hb => ?_) <;> simp only [go_sem, Nat.reduceBEq, Nat.reduceAdd, Nat.reduceLeDiff, Nat.reduceMul, Nat.reduceSub, Nat.reduceLT, Int.reduceEq, hb, e0, e1, e5]
    · have hi : i < fs.length := by simpa using hb
      obtain ⟨l, off, o, rfl, ho, hle, hc⟩ := sees_pos hx hi
      obtain ⟨l2, off2, o2, rfl, ho2, hle2, hc2⟩ := sees_pos hy hi
      obtain ⟨q0, -⟩ := F_at hle hc i hi
      obtain ⟨q1, -⟩ := F_at hle2 hc2 i hi
      first | (with_reducible refine draw_at 0 17 (by with_unfolding_all rfl) [(0, true, true), (1, true, false), (2, true, true), (3, true, false), (4, true, false), (5, false, false), (6, false, false), (7, false, false), (8, false, false), (9, false, false)] (by kernel_rfl) ?_)
      simp only [go_sem, Nat.reduceBEq, Nat.reduceAdd, Nat.reduceLeDiff, Nat.reduceMul, Nat.reduceSub, Nat.reduceLT, Int.reduceEq, e0, e1, e5, ho, ho2, q0, q1, Int.ofNat_lt, hi]
      refine c100 _ _ _ ?_
      simp only [go_sem, Nat.reduceBEq, Nat.reduceAdd, Nat.reduceLeDiff, Nat.reduceMul, Nat.reduceSub, Nat.reduceLT, Int.reduceEq, e0, e1, e5, ho, ho2, Bool.not_true]
      refine hJ (fs.length - (i + 1)) _ _ (by omega) ⟨i + 1, rfl, hi, by simp only [go_sem, Nat.reduceBEq, Nat.reduceAdd, Nat.reduceLeDiff, Nat.reduceMul, Nat.reduceSub, Nat.reduceLT, Int.reduceEq, e0], by simp only [go_sem, Nat.reduceBEq, Nat.reduceAdd, Nat.reduceLeDiff, Nat.reduceMul, Nat.reduceSub, Nat.reduceLT, Int.reduceEq, e1], ?_, rfl⟩
      simp only [go_sem, Nat.reduceBEq, Nat.reduceAdd, Nat.reduceLeDiff, Nat.reduceMul, Nat.reduceSub, Nat.reduceLT, Int.reduceEq, e5]
      congr 3; unfold wrap64; omega
    · refine hQ _ _ ?_
      simp only [go_sem, Nat.reduceBEq, Nat.reduceAdd, Nat.reduceLeDiff, Nat.reduceMul, Nat.reduceSub, Nat.reduceLT, Int.reduceEq, Try.f64]
      exact hk
theorem c21 (room : Int) (x y : CV) (fs : List FileL) (h : AH) (K : AV → AH → Prop) (hx : SeesF h x fs) (hy : SeesF h y fs) (hn : fs.length ≤ 1000000000) (hk : K (.one (.c (.bool true))) h) : ACalls Try.prog 21 [.agg [.c (.int .i64 room), x], .agg [.c (.int .i64 room), y]] h K := by
  refine acall_p Try.f21.results.toList mixed Try.func21 rfl rfl (by kernel_rfl) ?_
  intro Q hQ
  simp only [go_sem, Nat.reduceBEq, Nat.reduceAdd, Nat.reduceLeDiff, Nat.reduceMul, Nat.reduceSub, Nat.reduceLT, Int.reduceEq, BEq.rfl, Bool.not_true]
  repeat' (first | (with_reducible refine c_split (fun hb => ?_) (fun hb => ?_) <;> try simp only [go_sem, Nat.reduceBEq, Nat.reduceAdd, Nat.reduceLeDiff, Nat.reduceMul, Nat.reduceSub, Nat.reduceLT, Int.reduceEq, hb, BEq.rfl, Bool.not_true]) | (with_reducible refine w_split (fun hb => ?_) (fun hb => ?_) <;> try simp only [go_sem, Nat.reduceBEq, Nat.reduceAdd, Nat.reduceLeDiff, Nat.reduceMul, Nat.reduceSub, Nat.reduceLT, Int.reduceEq, hb, BEq.rfl, Bool.not_true]) | (with_reducible refine c64 _ _ _ _ _ (SeesF_app hx _) (SeesF_app hy _) hn ?_ <;> try simp only [go_sem, Nat.reduceBEq, Nat.reduceAdd, Nat.reduceLeDiff, Nat.reduceMul, Nat.reduceSub, Nat.reduceLT, Int.reduceEq, BEq.rfl, Bool.not_true]) | (with_reducible refine hQ _ _ ?_ <;> simp only [Try.f21, go_sem, Nat.reduceBEq, Nat.reduceAdd, Nat.reduceLeDiff, Nat.reduceMul, Nat.reduceSub, Nat.reduceLT, Int.reduceEq, BEq.rfl, Bool.not_true]))
  exact hk
def marksL (k : Int) (n : Nat) : List Int := (List.range n).map fun (i : Nat) => k + (i : Int)
theorem marksL_len (k : Int) (n : Nat) : (marksL k n).length = n := by simp [marksL]
theorem marksL_at (k : Int) (n i : Nat) (hi : i < (marksL k n).length) : (marksL k n)[i] = k + (i : Int) := by simp [marksL]
theorem marksL_succ (k : Int) (n : Nat) : marksL k (n + 1) = marksL k n ++ [k + (n : Int)] := by simp [marksL, List.range_succ]
theorem set_same {h : AH} {l : Nat} {o : AO} (hl : h[l]? = some o) : h.set l o = h := by
  apply List.ext_getElem?
  intro j
  rw [List.getElem?_set]
  split
  · rename_i e; subst e
    rw [if_pos (List.getElem?_eq_some_iff.1 hl).1, hl]
  · rfl
theorem set_at {h : AH} {l : Nat} {o : AO} (hl : h[l]? = some o) (o' : AO) : (h.set l o')[l]? = some o' := by rw [List.getElem?_set_self (List.getElem?_eq_some_iff.1 hl).1]
theorem c23n (k : Int) (h : AH) (K : AV → AH → Prop) (hk : K (.one (.c (.int .i64 k))) h) : ACalls Try.prog 23 [.one (.c (.slice none 0 0)), .one (.c (.int .i64 k))] h K := by
  refine acall_p Try.f23.results.toList mixed Try.func23 rfl rfl (by kernel_rfl) ?_
  intro Q hQ
  simp only [go_sem, Nat.reduceBEq, Nat.reduceAdd, Nat.reduceLeDiff, Nat.reduceMul, Nat.reduceSub, Nat.reduceLT, Int.reduceEq]
  refine loop_at (fun k' f h1 => f 0 = .one (.c (.slice none 0 0)) ∧ f 1 = .one (.c (.int .i64 k)) ∧ f 5 = .one (.c (.int .i64 0)) ∧ h1 = h) 0 ?_ ?_
  · simp only [go_sem, Nat.reduceBEq, Nat.reduceAdd, Nat.reduceLeDiff, Nat.reduceMul, Nat.reduceSub, Nat.reduceLT, Int.reduceEq]
  · rintro k' f h1 J hJ ⟨e0, e1, e5, rfl⟩
    simp only [go_sem, Nat.reduceBEq, Nat.reduceAdd, Nat.reduceLeDiff, Nat.reduceMul, Nat.reduceSub, Nat.reduceLT, Int.reduceEq, e0, e1, e5, Int.lt_irrefl, decide_false]
    refine hQ _ _ ?_
    simp only [go_sem, Nat.reduceBEq, Nat.reduceAdd, Nat.reduceLeDiff, Nat.reduceMul, Nat.reduceSub, Nat.reduceLT, Int.reduceEq, Try.f23]
    exact hk
theorem c23 (l n : Nat) (full : Bool) (cs : List CV) (k : Int) (h : AH) (K : AV → AH → Prop) (hl : h[l]? = some (.own 3 1 full cs)) (hcs : cs.length = n) (hn : n ≤ 1000000000) (hk0 : 0 ≤ k) (hk1 : k ≤ 1000000000)
    (hk : K (.one (.c (.int .i64 (k + n)))) (h.set l (.own 3 1 full (intsC (marksL k n))))) : ACalls Try.prog 23 [.one (.sl l 1 0 n), .one (.c (.int .i64 k))] h K := by
  refine acall_m Try.f23.results.toList mixed Try.func23 rfl rfl (by kernel_rfl) ?_
  intro Q hQ hQM
  simp only [go_sem, Nat.reduceBEq, Nat.reduceAdd, Nat.reduceLeDiff, Nat.reduceMul, Nat.reduceSub, Nat.reduceLT, Int.reduceEq]
  refine loop_at (fun k' f h1 => ∃ (i : Nat) (cs' : List CV), k' = n - i ∧ i ≤ n ∧ cs'.length = n ∧ cs'.take i = intsC (marksL k i) ∧ f 0 = .one (.sl l 1 0 n) ∧ f 1 = .one (.c (.int .i64 (k + i))) ∧ f 5 = .one (.c (.int .i64 i)) ∧ h1 = h.set l (.own 3 1 full cs')) n ?_ ?_
  · refine ⟨0, cs, rfl, Nat.zero_le _, hcs, by simp [marksL, intsC], ?_⟩
    simp only [go_sem, Nat.reduceBEq, Nat.reduceAdd, Nat.reduceLeDiff, Nat.reduceMul, Nat.reduceSub, Nat.reduceLT, Int.reduceEq, set_same hl]
    simp
  · rintro k' f h1 J hJ ⟨i, cs', rfl, hi, hcl, hct, e0, e1, e5, rfl⟩
    simp only [go_sem, Nat.reduceBEq, Nat.reduceAdd, Nat.reduceLeDiff, Nat.reduceMul, Nat.reduceSub, Nat.reduceLT, Int.reduceEq, e0, e1, e5]
    refine c_split (fun hb => ?_) (fun hb => ?_) <;> simp only [go_sem, Nat.reduceBEq, Nat.reduceAdd, Nat.reduceLeDiff, Nat.reduceMul, Nat.reduceSub, Nat.reduceLT, Int.reduceEq, hb, e0, e1, e5]
    · have hi : i < n := by simpa using hb
      have hb1 : i + 1 ≤ cs'.length := by omega
      simp only [go_sem, Nat.reduceBEq, Nat.reduceAdd, Nat.reduceLeDiff, Nat.reduceMul, Nat.reduceSub, Nat.reduceLT, Int.reduceEq, e0, e1, e5, Int.ofNat_lt, hi, Nat.mul_one, set_at hl, hb1, List.set_set]
      refine hJ (n - (i + 1)) _ _ (by omega) ⟨i + 1, cs'.set i (.c (.int .i64 (k + i))), rfl, hi, by simp [hcl], ?_, by simp only [go_sem, Nat.reduceBEq, Nat.reduceAdd, Nat.reduceLeDiff, Nat.reduceMul, Nat.reduceSub, Nat.reduceLT, Int.reduceEq, e0], ?_, ?_, rfl⟩
      · have := take_cset [CV.c (.int .i64 (k + i))] cs' i (by simp; omega)
        rw [marksL_succ, intsC, List.map_append, ← intsC, ← hct]
        simpa [cset] using this
      · simp only [go_sem, Nat.reduceBEq, Nat.reduceAdd, Nat.reduceLeDiff, Nat.reduceMul, Nat.reduceSub, Nat.reduceLT, Int.reduceEq, e1]
        congr 3; unfold wrap64; omega
      · simp only [go_sem, Nat.reduceBEq, Nat.reduceAdd, Nat.reduceLeDiff, Nat.reduceMul, Nat.reduceSub, Nat.reduceLT, Int.reduceEq, e5]
        congr 3; unfold wrap64; omega
    · have : i = n := by simp at hb; omega
      subst this
      rw [List.take_of_length_le (by omega)] at hct
      subst hct
      refine hQM _ _ (retM0 (by simp only [go_sem, Nat.reduceBEq, Nat.reduceAdd, Nat.reduceLeDiff, Nat.reduceMul, Nat.reduceSub, Nat.reduceLT, Int.reduceEq, Try.f23]; rfl) (pvs_ints _) (by simp only [go_sem, Nat.reduceBEq, Nat.reduceAdd, Nat.reduceLeDiff, Nat.reduceMul, Nat.reduceSub, Nat.reduceLT, Int.reduceEq]) ?_)
      simp only [go_sem, Nat.reduceBEq, Nat.reduceAdd, Nat.reduceLeDiff, Nat.reduceMul, Nat.reduceSub, Nat.reduceLT, Int.reduceEq]
      exact hk
theorem c24 (x : CV) (k : Int) (n : Nat) (h : AH) (K : AV → AH → Prop) (hx : SeesI h x (marksL k n)) (hn : n ≤ 1000000000) (hk0 : 0 ≤ k) (hk1 : k ≤ 1000000000) (hk : K (.one (.c (.int .i64 (k + n)))) h) : ACalls Try.prog 24 [.one x, .one (.c (.int .i64 k))] h K := by
  refine acall_p Try.f24.results.toList mixed Try.func24 rfl rfl (by kernel_rfl) ?_
  intro Q hQ
  simp only [go_sem, Nat.reduceBEq, Nat.reduceAdd, Nat.reduceLeDiff, Nat.reduceMul, Nat.reduceSub, Nat.reduceLT, Int.reduceEq]
  refine loop_at (fun k' f h1 => ∃ (i : Nat), k' = n - i ∧ i ≤ n ∧ f 0 = .one x ∧ f 1 = .one (.c (.int .i64 (k + i))) ∧ f 5 = .one (.c (.int .i64 i)) ∧ h1 = h) n ?_ ?_
  · refine ⟨0, rfl, Nat.zero_le _, ?_⟩
    simp only [go_sem, Nat.reduceBEq, Nat.reduceAdd, Nat.reduceLeDiff, Nat.reduceMul, Nat.reduceSub, Nat.reduceLT, Int.reduceEq]
    simp
  · rintro k' f h1 J hJ ⟨i, rfl, hi, e0, e1, e5, rfl⟩
    simp only [go_sem, Nat.reduceBEq, Nat.reduceAdd, Nat.reduceLeDiff, Nat.reduceMul, Nat.reduceSub, Nat.reduceLT, Int.reduceEq, e0, e1, e5, ln_seesI hx, marksL_len]
    refine c_split (fun hb => ?_) (fun hb => ?_) <;> simp only [go_sem, Nat.reduceBEq, Nat.reduceAdd, Nat.reduceLeDiff, Nat.reduceMul, Nat.reduceSub, Nat.reduceLT, Int.reduceEq, hb, e0, e1, e5]
    · have hi : i < n := by simpa using hb
      have hi2 : i < (marksL k n).length := by rw [marksL_len]; exact hi
      obtain ⟨l, off, o, rfl, ho, hle, hc⟩ := seesI_pos hx hi2
      have q0 := I_at hle hc i hi2
      rw [marksL_at] at q0
      simp only [go_sem, Nat.reduceBEq, Nat.reduceAdd, Nat.reduceLeDiff, Nat.reduceMul, Nat.reduceSub, Nat.reduceLT, Int.reduceEq, e0, e1, e5, ho, q0, Int.ofNat_lt, hi, Nat.mul_one, marksL_len, BEq.rfl, Bool.not_true]
      refine hJ (n - (i + 1)) _ _ (by omega) ⟨i + 1, rfl, hi, by simp only [go_sem, Nat.reduceBEq, Nat.reduceAdd, Nat.reduceLeDiff, Nat.reduceMul, Nat.reduceSub, Nat.reduceLT, Int.reduceEq, e0, marksL_len], ?_, ?_, rfl⟩
      · simp only [go_sem, Nat.reduceBEq, Nat.reduceAdd, Nat.reduceLeDiff, Nat.reduceMul, Nat.reduceSub, Nat.reduceLT, Int.reduceEq, e1]
        congr 3; unfold wrap64; omega
      · simp only [go_sem, Nat.reduceBEq, Nat.reduceAdd, Nat.reduceLeDiff, Nat.reduceMul, Nat.reduceSub, Nat.reduceLT, Int.reduceEq, e5]
        congr 3; unfold wrap64; omega
    · have : i = n := by simp at hb; omega
      subst this
      refine hQ _ _ ?_
      simp only [go_sem, Nat.reduceBEq, Nat.reduceAdd, Nat.reduceLeDiff, Nat.reduceMul, Nat.reduceSub, Nat.reduceLT, Int.reduceEq, Try.f24]
      exact hk
end Go.Proofs.Ytjfmfcdempkpdaa
