/- SegLaw: what is read of a segment that was mended and added to. Conditions: none. -/
import Derived.Test.YtaahlnjldenhpaaLG
import Derived.Test.YtaahlnjldenhpaaLT
import Derived.Test.YtaahlnjldenhpaaLDraw15
import Derived.Test.YtaahlnjldenhpaaLWithin
namespace Go.Proofs.Ytaahlnjldenhpaa
open Go.BL Go.RowKit
set_option linter.unusedVariables false
set_option linter.unusedSimpArgs false
set_option maxRecDepth 100000
attribute [local go_sem] fileC diskC fileC_len
theorem gnGo_ge (bs : List UInt8) (a : Nat) : ∀ (f k x n m : Nat), gnGo bs a f k x = some (n, m) → a + k + 1 ≤ m
  | 0, k, x, n, m, h => by simp [gnGo] at h
  | f + 1, k, x, n, m, h => by
    rw [gnGo] at h
    split at h
    · cases h
    · split at h
      · split at h
        · cases h
        · cases h; omega
      · have := gnGo_ge bs a f (k + 1) _ n m h; omega
theorem gnGo_ext {bs bs' : List UInt8} (a : Nat) : ∀ (f k x n m : Nat), gnGo bs a f k x = some (n, m) → (∀ i, i < m → bs'[i]? = bs[i]?) → gnGo bs' a f k x = some (n, m)
  | 0, k, x, n, m, h, _ => by simp [gnGo] at h
  | f + 1, k, x, n, m, h, he => by
    have hge := gnGo_ge bs a _ _ _ _ _ h
    rw [gnGo] at h ⊢
    rw [he (a + k) (by omega)]
    split at h
    · cases h
    · rename_i d hd
      try simp only [hd]
      split at h
      · rename_i h1
        rw [if_pos h1]; exact h
      · rename_i h1
        rw [if_neg h1]
        exact gnGo_ext a f (k + 1) _ n m h he
theorem get_lt {bs bs' : List UInt8} {i m : Nat} (he : ∀ i, i < m → bs'[i]? = bs[i]?) (hi : i < m) (h : i < bs.length) : i < bs'.length := by
  have h1 := he i hi
  rw [List.getElem?_eq_getElem h] at h1
  exact (List.getElem?_eq_some_iff.1 h1).1
theorem getNum_ext {bs bs' : List UInt8} {a n m : Nat} (h : getNum bs (a : Int) = some (n, m)) (he : ∀ i, i < m → bs'[i]? = bs[i]?) : getNum bs' (a : Int) = some (n, m) := by
  unfold getNum at h ⊢
  split at h
  · rename_i hc
    have h2 := gnGo_ge _ _ _ _ _ _ _ h
    have h3 : a < bs'.length := get_lt he (by omega) (by omega)
    rw [if_pos (by omega)]
    exact gnGo_ext _ _ _ _ _ _ h he
  · cases h
theorem open_ok {bs : List UInt8} {a : Nat} (h : (openS bs a).2.2 = 0) : ∃ n m, getNum bs (a : Int) = some (n, m) ∧ ¬ 9000 < n ∧ m + n + 4 ≤ bs.length ∧ a + 1 ≤ m ∧ (bs.drop (m + n)).take 4 = ckBytes (ckN ((bs.drop m).take n)) ∧ openS bs a = ((bs.drop m).take n, m + n + 4, 0) := by
  cases hg : getNum bs (a : Int) with
  | none => simp [openS, hg] at h
  | some p =>
    obtain ⟨n, m⟩ := p
    have hm : a + 1 ≤ m := by
      unfold getNum at hg
      split at hg
      · have := gnGo_ge _ _ _ _ _ _ _ hg; omega
      · cases hg
    simp only [openS, hg] at h ⊢
    split at h
    · simp at h
    · rename_i h1
      split at h
      · simp at h
      · rename_i h2
        split at h
        · rename_i h3
          exact ⟨n, m, rfl, h1, by omega, hm, h3, by rw [if_neg h1, if_neg h2, if_pos h3]⟩
        · simp at h
theorem dt_ext {bs bs' : List UInt8} {k : Nat} (he : ∀ i, i < k → bs'[i]? = bs[i]?) (m n : Nat) (hk : m + n ≤ k) : (bs'.drop m).take n = (bs.drop m).take n := by
  apply List.ext_getElem?
  intro i
  rw [List.getElem?_take, List.getElem?_take]
  split
  · rw [List.getElem?_drop, List.getElem?_drop, he _ (by omega)]
  · rfl
theorem open_ext {bs bs' : List UInt8} {a : Nat} (h : (openS bs a).2.2 = 0) (he : ∀ i, i < (openS bs a).2.1 → bs'[i]? = bs[i]?) : openS bs' a = openS bs a := by
  obtain ⟨n, m, h1, h2, h3, h4, h5, h6⟩ := open_ok h
  rw [h6] at he
  simp only at he
  have hl : m + n + 4 ≤ bs'.length := by
    have := get_lt he (i := m + n + 3) (by omega) (by omega)
    omega
  have hg := getNum_ext h1 (bs' := bs') (fun i hi => he i (by omega))
  have e1 := dt_ext he (m + n) 4 (by omega)
  have e2 := dt_ext he m n (by omega)
  rw [h6, openS, hg]
  simp only
  rw [if_neg h2, if_neg (by omega), e1, e2, if_pos h5]
theorem open_next {bs : List UInt8} {a : Nat} (h : (openS bs a).2.2 = 0) : a ≤ (openS bs a).2.1 ∧ (openS bs a).2.1 ≤ bs.length := by
  obtain ⟨n, m, h1, h2, h3, h4, h5, h6⟩ := open_ok h
  rw [h6]; simp only; omega
theorem seg_ge (bs : List UInt8) : ∀ k a, a ≤ (segGo bs k a).2
  | 0, a => Nat.le_refl _
  | k + 1, a => by
    rw [segGo]
    split
    · rename_i h
      have h1 := (open_next h).1
      have h2 := seg_ge bs k (openS bs a).2.1
      exact Nat.le_trans h1 h2
    · exact Nat.le_refl _
theorem seg_le (bs : List UInt8) : ∀ k a, a ≤ bs.length → (segGo bs k a).2 ≤ bs.length
  | 0, a, ha => ha
  | k + 1, a, ha => by
    rw [segGo]
    split
    · rename_i h
      exact seg_le bs k _ (open_next h).2
    · exact ha
theorem seg_prefix {bs bs' : List UInt8} : ∀ (k a : Nat), (∀ i, i < (segGo bs k a).2 → bs'[i]? = bs[i]?) → ∀ j, segGo bs' ((segGo bs k a).1.length + j) a = ((segGo bs k a).1 ++ (segGo bs' j (segGo bs k a).2).1, (segGo bs' j (segGo bs k a).2).2)
  | 0, a, he, j => by simp [segGo]
  | k + 1, a, he, j => by
    rw [segGo] at he ⊢
    split at he
    · rename_i h
      rw [if_pos h]
      simp only at he ⊢
      have hn := seg_ge bs k (openS bs a).2.1
      have hx := open_ext h (bs' := bs') (fun i hi => he i (by omega))
      have ih := seg_prefix k (openS bs a).2.1 he j
      rw [List.length_cons, show (segGo bs k (openS bs a).2.1).1.length + 1 + j = ((segGo bs k (openS bs a).2.1).1.length + j) + 1 by omega, segGo, hx, if_pos h, ih]
      rfl
    · rename_i h
      rw [if_neg h]
      simp
theorem seg_end {bs : List UInt8} {a : Nat} (h : ¬ (openS bs a).2.2 = 0) : ∀ k, segGo bs k a = ([], a)
  | 0 => rfl
  | k + 1 => by rw [segGo, if_neg h]
theorem gnGo_put {bs : List UInt8} (a : Nat) : ∀ (f k v x : Nat), v < 128 ^ f → (k = 0 ∨ 0 < v) → 0 < f → (∀ i, i < (putN v).length → bs[a + k + i]? = (putN v)[i]?) → gnGo bs a f k x = some (x + v * 128 ^ k, a + k + (putN v).length)
  | 0, k, v, x, hv, hk, hf, h => absurd hf (Nat.lt_irrefl _)
  | f + 1, k, v, x, hv, hk, hf, h => by
    rw [gnGo]
    by_cases hb : 127 < v
    · have e := putN_big hb
      rw [e] at h ⊢
      have h0 := h 0 (by simp)
      rw [Nat.add_zero, List.getElem?_cons_zero] at h0
      rw [h0]
      simp only
      have ht : (UInt8.ofNat (v % 128 + 128)).toNat = v % 128 + 128 := by rw [UInt8.toNat_ofNat']; omega
      have hf1 : 0 < f := by
        rcases f with _ | f
        · simp at hv; omega
        · omega
      rw [ht, if_neg (by omega), gnGo_put a f (k + 1) (v / 128) _ (Nat.div_lt_of_lt_mul (by rw [Nat.pow_succ] at hv; rw [Nat.mul_comm]; exact hv)) (.inr (by omega)) hf1 (fun i hi => by
        have h1 := h (i + 1) (by simp; omega)
        rw [List.getElem?_cons_succ] at h1
        rw [← h1]; congr 1; omega)]
      congr 2
      · rw [show (v % 128 + 128) % 128 = v % 128 by omega, Nat.pow_succ, Nat.add_assoc, ← Nat.mul_assoc, Nat.mul_right_comm, ← Nat.add_mul]
        congr 2; omega
      · rw [List.length_cons]; omega
    · have e := putN_small hb
      rw [e] at h ⊢
      have h0 := h 0 (by simp)
      rw [Nat.add_zero, List.getElem?_cons_zero] at h0
      rw [h0]
      simp only
      have ht : (UInt8.ofNat v).toNat = v := by rw [UInt8.toNat_ofNat']; omega
      rw [ht, if_pos (by omega), if_neg (by omega), Nat.mod_eq_of_lt (by omega)]
      rfl
theorem open_seal (X s Y : List UInt8) (hs : s.length ≤ 9000) : openS (X ++ ((sealS s).1 ++ Y)) X.length = (s, X.length + (sealS s).1.length, 0) ∧ (sealS s).2 = true := by
  have e : sealS s = (putN s.length ++ s ++ ckBytes (ckN s), true) := by rw [sealS, if_neg (by omega), putNum_nat]
  rw [e]
  simp only
  refine ⟨?_, trivial⟩
  have hp := putN_len s.length
  generalize hB : X ++ (putN s.length ++ s ++ ckBytes (ckN s) ++ Y) = B
  have hc4 : (ckBytes (ckN s)).length = 4 := rfl
  have hBl : B.length = X.length + (putN s.length).length + s.length + 4 + Y.length := by rw [← hB]; simp only [List.length_append, hc4]; omega
  have hg : getNum B (X.length : Int) = some (s.length, X.length + (putN s.length).length) := by
    rw [getNum, if_pos (by omega), Int.toNat_natCast, gnGo_put X.length 9 0 s.length 0 (by omega) (.inl rfl) (by omega)]
    · simp
    · intro i hi
      rw [← hB, Nat.add_zero, List.getElem?_append_right (by omega), Nat.add_sub_cancel_left, List.append_assoc, List.append_assoc, List.getElem?_append_left hi]
  have hd1 : B.drop (X.length + (putN s.length).length) = s ++ (ckBytes (ckN s) ++ Y) := by
    rw [← hB, show X ++ (putN s.length ++ s ++ ckBytes (ckN s) ++ Y) = (X ++ putN s.length) ++ (s ++ (ckBytes (ckN s) ++ Y)) by simp, ← List.length_append, List.drop_left]
  have hd2 : B.drop (X.length + (putN s.length).length + s.length) = ckBytes (ckN s) ++ Y := by
    rw [← List.drop_drop, hd1, List.drop_left]
  rw [openS, hg]
  simp only
  rw [if_neg (by omega), if_neg (by omega), hd1, hd2, List.take_left, show (4 : Nat) = (ckBytes (ckN s)).length from rfl, List.take_left, if_pos rfl]
  simp only [List.length_append, hc4, Nat.add_assoc]
def abcB : List UInt8 := [97, 98, 99]
theorem abc_seal : (sealS abcB).1 = 3 :: ([97, 98, 99] ++ ckBytes (ckN abcB)) ∧ (sealS abcB).1.length = 8 ∧ (sealS abcB).2 = true := by
  have e : sealS abcB = (putN 3 ++ abcB ++ ckBytes (ckN abcB), true) := by rw [sealS, if_neg (by decide), show abcB.length = 3 from rfl, putNum_nat]
  rw [e, putN_small (by omega)]
  exact ⟨rfl, rfl, rfl⟩
theorem open_part (X : List UInt8) (p : Nat) (hp : p < 8) : ¬ (openS (X ++ (sealS abcB).1.take p) X.length).2.2 = 0 := by
  obtain ⟨h1, h2, _⟩ := abc_seal
  rcases p with _ | p
  · exact seg_none (by simp)
  · rw [h1, List.take_succ_cons]
    generalize hq : List.take p ([97, 98, 99] ++ ckBytes (ckN abcB)) = Q
    have hQ : Q.length ≤ p := by rw [← hq, List.length_take]; omega
    have hg : getNum (X ++ 3 :: Q) (X.length : Int) = some (3, X.length + 1) := by
      rw [getNum, if_pos (by simp; omega), Int.toNat_natCast, gnGo, Nat.add_zero, List.getElem?_append_right (Nat.le_refl _), Nat.sub_self, List.getElem?_cons_zero]
      rfl
    rw [openS, hg]
    simp only
    rw [if_neg (by omega), if_pos (by simp; omega)]
    simp
/-- What is read of a segment's bytes that were cut behind their records, with one record behind and a part of another. -/
theorem seg_read2 (bs s : List UInt8) (p : Nat) (hs : s.length ≤ 9000) (hold : (segGo bs 6 0).1.length < 5) : (segGo (bs.take (segGo bs 6 0).2 ++ ((sealS s).1 ++ (sealS abcB).1.take p)) 6 0).1 = (segGo bs 6 0).1 ++ [bA s] ∨ (segGo (bs.take (segGo bs 6 0).2 ++ ((sealS s).1 ++ (sealS abcB).1.take p)) 6 0).1 = (segGo bs 6 0).1 ++ [bA s, bA abcB] := by
  have hle := seg_le bs 6 0 (Nat.zero_le _)
  have hpre := seg_prefix (bs := bs) (bs' := bs.take (segGo bs 6 0).2 ++ ((sealS s).1 ++ (sealS abcB).1.take p)) 6 0 (fun i hi => by
    rw [List.getElem?_append_left (by rw [List.length_take]; omega), List.getElem?_take_of_lt hi])
  generalize segGo bs 6 0 = R at *
  obtain ⟨j, hj⟩ : ∃ j, R.1.length + (j + 2) = 6 := ⟨4 - R.1.length, by omega⟩
  have h1 := hpre (j + 2)
  rw [hj] at h1
  rw [h1]
  have hX : (bs.take R.2).length = R.2 := by rw [List.length_take]; omega
  have ho := (open_seal (bs.take R.2) s ((sealS abcB).1.take p) hs).1
  rw [hX] at ho
  rw [segGo, ho]
  simp only [if_true]
  have hX2 : (bs.take R.2 ++ (sealS s).1).length = R.2 + (sealS s).1.length := by rw [List.length_append, hX]
  by_cases hp : p < 8
  · have h2 := open_part (bs.take R.2 ++ (sealS s).1) p hp
    rw [hX2, List.append_assoc] at h2
    rw [seg_end h2]
    exact .inl rfl
  · have htk : (sealS abcB).1.take p = (sealS abcB).1 ++ [] := by rw [List.append_nil, List.take_of_length_le (by rw [abc_seal.2.1]; omega)]
    have h2 := (open_seal (bs.take R.2 ++ (sealS s).1) abcB [] (by decide)).1
    rw [hX2, List.append_assoc, ← htk] at h2
    rw [segGo, h2]
    simp only [if_true]
    rw [seg_end (seg_none _)]
    · exact .inr rfl
    · rw [htk, List.append_nil, List.length_append, List.length_append, hX]; omega
/-- Mended bytes hold the same records. -/
theorem seg_cut (bs : List UInt8) : segGo (bs.take (segGo bs 6 0).2) 6 0 = segGo bs 6 0 := by
  have hle := seg_le bs 6 0 (Nat.zero_le _)
  have hl := segGo_len bs 6 0
  have hpre := seg_prefix (bs := bs) (bs' := bs.take (segGo bs 6 0).2) 6 0 (fun i hi => by rw [List.getElem?_take_of_lt hi])
  generalize segGo bs 6 0 = R at *
  obtain ⟨j, hj⟩ : ∃ j, R.1.length + j = 6 := ⟨6 - R.1.length, by omega⟩
  have h1 := hpre j
  rw [hj] at h1
  rw [h1, seg_end (seg_none (by rw [List.length_take]; omega)), List.append_nil]
theorem bA_toList (s : ByteArray) : bA s.data.toList = s := by cases s; simp [bA]
theorem bA_app (x y : List UInt8) : (bA x ++ bA y).data.toList = x ++ y := by
  show (ByteArray.append _ _).data.toList = _
  simp [bA, ByteArray.append, ByteArray.copySlice]
theorem ba_app_list (x y : ByteArray) : (x ++ y).data.toList = x.data.toList ++ y.data.toList := by
  have h := bA_app x.data.toList y.data.toList
  rwa [bA_toList, bA_toList] at h
theorem ba_take (x : ByteArray) (n : Nat) : (x.extract 0 n).data.toList = x.data.toList.take n := by
  rw [ByteArray.data_extract]; simp
theorem mendR_cases {d : Disk} (hd : OkD d) (seg : Int) : mendR d seg = (⟨0, []⟩, 1) ∨ mendR d seg = (d, 2) ∨ ∃ (m : Disk) (bs : List UInt8), mendR d seg = (m, 0) ∧ (0 ≤ seg ∧ seg ≤ 19) ∧ Good m ∧ readA m seg = some (bA (bs.take (segGo bs 6 0).2)) := by
  unfold mendR
  split
  · rename_i hs
    have hss : 0 ≤ seg ∧ seg ≤ 21 := by omega
    by_cases hok : diskOk d = true
    · have hG := good_of (okd_small hd) hok
      cases hf : d.files.find? (fun f => f.name == seg) with
      | none => refine .inr (.inl ?_); rw [cutR, if_pos ⟨hok, hss⟩, hf]
      | some f =>
        have hr : readA d seg = some (f.safe ++ f.late) := by rw [read_ok hok, hf]; rfl
        have hrd : segRd d seg = segGo (f.safe ++ f.late).data.toList 6 0 := by rw [segRd, hr]; exact if_pos hs
        have hle := seg_le (f.safe ++ f.late).data.toList 6 0 (Nat.zero_le _)
        have hlen : (f.safe ++ f.late).data.toList.length = f.safe.size + f.late.size := by
          rw [← ByteArray.size_append]; rfl
        have hc : cutR d seg (segRd d seg).2 = (⟨d.room, putF d.files ⟨seg, (f.safe ++ f.late).extract 0 (segRd d seg).2, ⟨#[]⟩⟩⟩, 0) := by
          rw [cutR, if_pos ⟨hok, hss⟩, hf]
          simp only
          rw [if_pos (by rw [hrd]; omega), Int.toNat_natCast]
        have hGm := good_cut hG seg (segRd d seg).2 (by rw [hc]; show (0 : Int) ≠ 1; decide)
        rw [hc] at hGm ⊢
        refine .inr (.inr ⟨_, (f.safe ++ f.late).data.toList, rfl, hs, hGm, ?_⟩)
        rw [read_ok (good_ok hGm), find_put, if_pos rfl, hrd]
        simp only [Option.map_some, ba_nil]
        rw [← ba_take, bA_toList]
    · refine .inl ?_
      rw [cutR, if_neg (fun q => hok q.1)]
  · exact .inl rfl
theorem addR_cases {m : Disk} (hG : Good m) {seg : Int} (hs : 0 ≤ seg ∧ seg ≤ 19) (s : ByteArray) (t : ByteArray) (hr : readA m seg = some t) : addR m seg s = (⟨0, []⟩, 1) ∨ addR m seg s = (m, 3) ∨ (s.size ≤ 9000 ∧ ∃ e : Disk, addR m seg s = (e, 0) ∧ Good e ∧ e.files.find? (fun f => f.name == seg) = some ⟨seg, t ++ bA (sealS s.data.toList).1, ⟨#[]⟩⟩) := by
  have hss : 0 ≤ seg ∧ seg ≤ 21 := by omega
  have hsz : s.data.toList.length = s.size := rfl
  by_cases hl : s.size ≤ 9000
  · have h2 : (sealS s.data.toList).2 = true := (open_seal [] _ [] (by omega)).2
    have hlate : lateR m seg s = appR m seg (bA (sealS s.data.toList).1) := by rw [lateR, if_pos ⟨h2, hs⟩]
    generalize bA (sealS s.data.toList).1 = S at *
    rcases appR_cases m seg S with e | e | ⟨ok, hfit, e⟩
    · refine .inl ?_
      rw [addR, hlate, e]; rfl
    · refine .inr (.inl ?_)
      rw [addR, hlate, e]; rfl
    · refine .inr (.inr ⟨hl, ?_⟩)
      have hadd := add_facts m.files seg S
      have hGe : Good ⟨m.room, putF m.files (addF m.files seg S)⟩ := by
        have := good_app hG seg S (by rw [e]; show (0 : Int) ≠ 1; decide)
        rw [e] at this; exact this
      have hts : (addF m.files seg S).safe ++ (addF m.files seg S).late = t ++ S := by
        obtain ⟨old, ob, h1, h3, _⟩ := old_add m (good_ok hG) seg S
        rw [hr, rr_some] at h1
        injection h1 with h1
        injection h1 with h1 _
        injection h1 with h1
        injection h1 with h1
        injection h1 with h1
        rw [h3, h1]
      generalize addF m.files seg S = F at *
      have hsync : addR m seg s = (⟨m.room, putF (putF m.files F) ⟨seg, F.safe ++ F.late, ⟨#[]⟩⟩⟩, 0) := by
        rw [addR, hlate, e, if_pos rfl, syncR, if_pos ⟨good_ok hGe, hss⟩, find_put, if_pos hadd.1.symm]
      have hG2 := good_add hG seg s (by rw [hsync]; show (0 : Int) ≠ 1; decide)
      rw [hsync] at hG2
      refine ⟨_, hsync, hG2, ?_⟩
      rw [find_put, if_pos rfl, hts]
  · refine .inl ?_
    have h2 : sealS s.data.toList = ([], false) := by rw [sealS, if_pos (by omega)]
    have hlate : lateR m seg s = (⟨0, []⟩, 1) := by rw [lateR, h2, if_neg (by simp)]
    rw [addR, hlate]; rfl
def abcT : ByteArray := ⟨#[97, 98, 99]⟩
theorem late_crash {e : Disk} (hG : Good e) {seg : Int} (hs : 0 ≤ seg ∧ seg ≤ 19) (t : ByteArray) (hf : e.files.find? (fun f => f.name == seg) = some ⟨seg, t, ⟨#[]⟩⟩) (keep : Int) (l : Disk) (hl : l = e ∨ lateR e seg abcT = (l, 0)) :
    Good l ∧ ∃ p, readA (crashR l keep) seg = some (t ++ bA ((sealS abcB).1.take p)) := by
  have hss : 0 ≤ seg ∧ seg ≤ 21 := by omega
  have key : ∀ (l : Disk) (x : ByteArray), Good l → l.files.find? (fun f => f.name == seg) = some ⟨seg, t, x⟩ → readA (crashR l keep) seg = some (t ++ x.extract 0 (keepN keep ⟨seg, t, x⟩).toNat) := by
    intro l x hGl hfl
    have hGc := good_crash hGl keep
    rw [crashR, if_pos (good_ok hGl)] at hGc ⊢
    have hfc : (l.files.map (crashF keep)).find? (fun f => f.name == seg) = some (crashF keep ⟨seg, t, x⟩) := by
      rw [List.find?_map, show ((fun f : File => f.name == seg) ∘ crashF keep) = (fun f => f.name == seg) from rfl, hfl]; rfl
    rw [read_ok (good_ok hGc), hfc]
    simp only [Option.map_some, crashF, ba_nil]
  rcases hl with rfl | hl
  · refine ⟨hG, 0, ?_⟩
    rw [key l ⟨#[]⟩ hG hf, ← bA_toList (ByteArray.extract _ _ _), ba_take, show (⟨#[]⟩ : ByteArray).data.toList = [] from rfl, List.take_nil]
    rfl
  · have h2 : (sealS abcT.data.toList).2 = true := abc_seal.2.2
    rw [lateR, if_pos ⟨h2, hs⟩] at hl
    have hS : (sealS abcT.data.toList).1 = (sealS abcB).1 := rfl
    rw [hS] at hl
    rcases appR_cases e seg (bA (sealS abcB).1) with q | q | ⟨ok, hfit, q⟩
    · rw [q] at hl; injection hl with _ h3; exact absurd h3 (by decide)
    · rw [q] at hl; injection hl with _ h3; exact absurd h3 (by decide)
    · have hGl : Good l := by
        have := good_app hG seg (bA (sealS abcB).1) (by rw [hl]; show (0 : Int) ≠ 1; decide)
        rw [hl] at this; exact this
      rw [q] at hl
      injection hl with hl _
      have hfl : l.files.find? (fun f => f.name == seg) = some ⟨seg, t, (⟨#[]⟩ : ByteArray) ++ bA (sealS abcB).1⟩ := by
        rw [← hl]
        show (putF e.files (addF e.files seg (bA (sealS abcB).1))).find? _ = _
        rw [find_put, if_pos (add_facts e.files seg _).1.symm, addF, hf]
      refine ⟨hGl, (keepN keep ⟨seg, t, bA (sealS abcB).1⟩).toNat, ?_⟩
      rw [nil_ba] at hfl
      rw [key l _ hGl hfl]
      congr 2
      rw [← bA_toList (ByteArray.extract _ _ _), ba_take]
      rfl
/-- The law on what is read behind a crash. -/
theorem segs_all {d : Disk} (hd : OkD d) {seg : Int} {m e l : Disk} {s : ByteArray} {keep : Int} (h1 : mendR d seg = (m, 0)) (h2 : addR m seg s = (e, 0)) (hold : (segRd m seg).1.length < 5) (hl : l = e ∨ lateR e seg abcT = (l, 0)) :
    (segRd (crashR l keep) seg).1 = (segRd m seg).1 ++ [s] ∨ (segRd (crashR l keep) seg).1 = (segRd m seg).1 ++ [s, abcT] := by
  rcases mendR_cases hd seg with q | q | ⟨m', bs, q, hs, hGm, hrm⟩
  · rw [q] at h1; injection h1 with _ h3; exact absurd h3 (by decide)
  · rw [q] at h1; injection h1 with _ h3; exact absurd h3 (by decide)
  rw [h1] at q
  injection q with q _
  subst q
  rcases addR_cases hGm hs s _ hrm with q | q | ⟨hsz, e', q, hGe, hfe⟩
  · rw [q] at h2; injection h2 with _ h3; exact absurd h3 (by decide)
  · rw [q] at h2; injection h2 with _ h3; exact absurd h3 (by decide)
  rw [h2] at q
  injection q with q _
  subst q
  obtain ⟨_, p, hr⟩ := late_crash hGe hs _ hfe keep l hl
  have hm : segRd m seg = segGo bs 6 0 := by
    rw [segRd, hrm]
    simp only
    rw [if_pos hs]
    exact seg_cut bs
  have hc : segRd (crashR l keep) seg = segGo (bs.take (segGo bs 6 0).2 ++ ((sealS s.data.toList).1 ++ (sealS abcB).1.take p)) 6 0 := by
    rw [segRd, hr]
    simp only
    rw [if_pos hs, ba_app_list, ba_app_list, List.append_assoc]
    rfl
  rw [hm] at hold ⊢
  rw [hc]
  have := seg_read2 bs s.data.toList p hsz hold
  rw [bA_toList] at this
  exact this
end Go.Proofs.Ytaahlnjldenhpaa
