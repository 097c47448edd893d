/-
  Layer 12 (bank), plain: the bank loses nothing; shifts, sums and powers of banks that were split. No program in sight.
-/
import Derived.Test.YtnhjeelcgfobnaaBkM
namespace Go.Proofs.Ytnhjeelcgfobnaa
open Go.RowKit Num Dft
set_option maxRecDepth 8000
set_option linter.unusedVariables false
set_option linter.unusedSimpArgs false
namespace Bk
open Lol Crs

theorem bkL_fwd {P : Nat} {l : List Int} (h : Fit P l) : bkL P (fwdL P l) = l := by
  have h1 := bk_fwd h
  unfold bkS at h1
  rw [if_pos (chkL_ok (fit_fwd h))] at h1
  exact (Prod.mk.inj h1).1
theorem range_flat (n : Nat) (s : List Int) : ∀ N, N * n ≤ s.length → (List.range N).flatMap (fun t => fullL (smp n s t) n) = s.take (N * n) := by
  intro N
  induction N with
  | zero => intro _; simp
  | succ N ih =>
    intro h
    rw [Nat.succ_mul] at h ⊢
    rw [List.range_succ, List.flatMap_append, ih (by omega), List.take_add]
    congr 1
    simp only [List.flatMap_cons, List.flatMap_nil, List.append_nil]
    apply List.ext_getElem
    · rw [fullL_len, List.length_take, List.length_drop]; omega
    · intro i h1 h2
      rw [fullL_get]
      unfold smp
      rw [fullL_len] at h1
      rw [getD_lt _ _ (by omega), List.getElem_take, List.getElem_drop]
theorem mrg_full (P : Nat) (F : Nat → List Int) (N : Nat) : mrgL P (fullL F N) = (List.range N).flatMap (fun t => mrR P (F t)) := by
  unfold mrgL fullL
  rw [List.flatMap_map]
theorem flat_congr {f g : Nat → List Int} : ∀ {N : Nat}, (∀ t, t < N → f t = g t) → (List.range N).flatMap f = (List.range N).flatMap g := by
  intro N
  induction N with
  | zero => intro _; rfl
  | succ N ih =>
    intro h
    rw [List.range_succ, List.flatMap_append, List.flatMap_append, ih (fun t ht => h t (by omega))]
    simp [h N (by omega)]
/-- Merging a block of small residues. -/
theorem mrR_fwd {P n : Nat} (h : Ok P n) (X : Nat → Int) (hX : ∀ k, k < n → -(P : Int) < 2 * X k ∧ 2 * X k < P) : mrR P (fwdL P (resL P n X)) = fullL X n := by
  unfold mrR
  rw [fwdL_len, resL_len, bkL_fwd (fit_res h X)]
  exact fullL_congr fun k hk => sg_res X hX hk
theorem smp_bd {P n : Nat} {s : List Int} (h : Strm P n s) (t k : Nat) : -3 ≤ smp n s t k ∧ smp n s t k ≤ 3 := by
  unfold smp
  rcases Nat.lt_or_ge (t * n + k) s.length with h1 | h1
  · exact h.el _ h1
  · rw [List.getD_eq_getElem?_getD, List.getElem?_eq_none h1]
    simp
theorem Strm.mul {P n : Nat} {s : List Int} (h : Strm P n s) : s.length / n * n = s.length := Nat.div_mul_cancel (Nat.dvd_of_mod_eq_zero h.ln)
theorem mrg_split {P n : Nat} {s : List Int} (h : Strm P n s) : mrgL P (splitL P n s) = s := by
  have h7 := h.h7
  unfold splitL
  rw [mrg_full, flat_congr (f := fun t => mrR P (spF P n s t)) (g := fun t => fullL (smp n s t) n) (fun t _ => mrR_fwd h.ok _ (fun k _ => by have := smp_bd h t k; omega)), range_flat n s _ (Nat.le_of_eq h.mul), h.mul, List.take_length]
/-- Rows of transforms make a bank. -/
theorem bank_full {P n N : Nat} (h : Ok P n) (h16 : n ≤ 16) (hN : N ≤ 256) (X : Nat → Nat → Int) : Bank P n (fullL (fun t => fwdL P (resL P n (X t))) N) := by
  have h2 := h.pr.1
  have e1 := rem_mod (P := P) (n := n) (by omega)
  have hd := h.dv
  refine ⟨by rw [fullL_len]; exact hN, fun k hk => ?_⟩
  rw [fullL_get]
  have hf := fit_fwd (fit_res h (X k))
  refine ⟨by rw [fwdL_len, resL_len], h.l1, h16, by omega, fun j hj => hf.el j (by rw [fwdL_len, resL_len]; exact hj)⟩
theorem bank_split {P n : Nat} {s : List Int} (h : Strm P n s) : Bank P n (splitL P n s) :=
  bank_full h.ok h.n16 (by have := h.len; have := Nat.div_le_self s.length n; omega) _
theorem both_ok {P n : Nat} {b : List (List Int)} (h7 : 7 ≤ P) (h2 : P ≤ 2000000000) (hP : Pr P) (h : Bank P n b) : bothE12 (P : Int) b = 0 := by
  unfold bothE12
  rw [if_neg (by simp [modE_pr h7 h2 hP]), bank_ok h]
theorem split_ok {P n : Nat} {s : List Int} (h : Strm P n s) : splitS (P : Int) (n : Int) s = (splitL P n s, 0) := by
  unfold splitS
  rw [if_neg (by simp [str_ok h])]
  rfl
theorem merge_ok {P n : Nat} {b : List (List Int)} (h7 : 7 ≤ P) (h2 : P ≤ 2000000000) (hP : Pr P) (h : Bank P n b) (hl : b.length * n ≤ 256) :
    mergeS (P : Int) b = if (mrgL P b).any badS = true then ([], 16) else (mrgL P b, 0) := by
  unfold mergeS
  rw [if_neg (by simp [both_ok h7 h2 hP h]), if_neg]
  · rfl
  · rcases Nat.eq_zero_or_pos b.length with h0 | h0
    · rw [h0]; simp
    · rw [h.wid h0]; omega
theorem split_small {P n : Nat} {s : List Int} (h : Strm P n s) : (splitL P n s).length * n ≤ 256 := by
  rw [splitL_len, h.mul]; exact h.len
/-- **The bank loses nothing.** -/
theorem merge_split {P n : Nat} {s : List Int} (h : Strm P n s) : mergeS (P : Int) (splitL P n s) = (s, 0) := by
  rw [merge_ok h.h7 h.le h.pr (bank_split h) (split_small h), mrg_split h, if_neg (by simp [any_badS.2 h.el])]
/-! ### shifts -/
def trnX (n D : Nat) (s : List Int) (t k : Nat) : Int := smp n s t (backI n D k)
def trn (n D : Nat) (s : List Int) : List Int := (List.range (s.length / n)).flatMap (fun t => fullL (trnX n D s t) n)
theorem flat_len2 (n : Nat) (F : Nat → Nat → Int) : ∀ N, ((List.range N).flatMap (fun t => fullL (F t) n)).length = N * n := by
  intro N
  induction N with
  | zero => simp
  | succ N ih => rw [List.range_succ, List.flatMap_append, List.length_append, ih, Nat.succ_mul]; simp [fullL_len]
theorem flat_at (n : Nat) (F : Nat → Nat → Int) : ∀ N t k, t < N → k < n → ((List.range N).flatMap (fun t => fullL (F t) n)).getD (t * n + k) 0 = F t k := by
  intro N
  induction N with
  | zero => intro t k h; omega
  | succ N ih =>
    intro t k ht hk
    rw [List.range_succ, List.flatMap_append]
    rcases Nat.lt_or_ge t N with h1 | h1
    · have h2 : t * n + k < N * n := by
        have : (t + 1) * n ≤ N * n := Nat.mul_le_mul_right n h1
        rw [Nat.succ_mul] at this
        omega
      rw [List.getD_eq_getElem?_getD, List.getElem?_append_left (by rw [flat_len2]; exact h2), ← List.getD_eq_getElem?_getD]
      exact ih t k h1 hk
    · obtain rfl : t = N := by omega
      rw [List.getD_eq_getElem?_getD, List.getElem?_append_right (by rw [flat_len2]; omega), flat_len2, Nat.add_sub_cancel_left, ← List.getD_eq_getElem?_getD]
      simp only [List.flatMap_cons, List.flatMap_nil, List.append_nil]
      exact fullL_getD _ _ _ _ hk
theorem trn_len {P n : Nat} {s : List Int} (D : Nat) (h : Strm P n s) : (trn n D s).length = s.length := by unfold trn; rw [flat_len2, h.mul]
theorem trn_at {n D : Nat} {s : List Int} {t k : Nat} (ht : t < s.length / n) (hk : k < n) : (trn n D s).getD (t * n + k) 0 = smp n s t (backI n D k) := flat_at n (trnX n D s) _ t k ht hk
theorem div_bd {n j N : Nat} (hn : 1 ≤ n) (h : j < N * n) : ∃ t k, j = t * n + k ∧ k < n ∧ t < N :=
  ⟨j / n, j % n, by rw [Nat.mul_comm]; exact (Nat.div_add_mod j n).symm, Nat.mod_lt _ hn, (Nat.div_lt_iff_lt_mul hn).2 h⟩
theorem trn_strm {P n : Nat} {s : List Int} (D : Nat) (h : Strm P n s) : Strm P n (trn n D s) := by
  have hl := trn_len D h
  refine ⟨h.h7, h.le, h.pr, h.n1, h.n16, by rw [hl]; exact h.len, h.dv, fun j hj => ?_, by rw [hl]; exact h.ln⟩
  rw [hl, ← h.mul] at hj
  obtain ⟨t, k, rfl, hk, ht⟩ := div_bd h.n1 hj
  rw [trn_at ht hk]
  exact smp_bd h _ _
theorem trn_smp {P n D : Nat} {s : List Int} (h : Strm P n s) {t k : Nat} (ht : t < s.length / n) (hk : k < n) : smp n (trn n D s) t k = smp n s t (backI n D k) := trn_at ht hk
theorem tu_res {P n D : Nat} (hD : D < n) (X : Nat → Int) : tuL (resL P n X) D = resL P n (fun m => X (backI n D m)) := by
  unfold tuL
  rw [resL_len]
  refine fullL_congr fun m hm => ?_
  unfold tuF
  rw [resL_len, resL_at P X (backI_lt (by omega))]
theorem shift_row {P n : Nat} (h : Ok P n) (X : Nat → Int) (d : Int) : (phS (P : Int) (fwdL P (resL P n X)) d).1 = fwdL P (resL P n (fun m => X (backI n (rotD d n) m))) := by
  have hf := fit_res h X
  have hD := rotD_lt d h.l1
  unfold phS
  rw [if_pos (chkL_ok (fit_fwd hf)), ← tu_res hD, turn_phase hf (by rw [resL_len]; exact hD)]
  show fullL (phF P (fwdL P (resL P n X)) (rotD d (fwdL P (resL P n X)).length)) _ = _
  rw [fwdL_len, resL_len]
/-- **Shifts of a bank are turns of its blocks.** -/
theorem shift_split {P n : Nat} {s : List Int} (h : Strm P n s) (d : Int) : shiftS (P : Int) (splitL P n s) d = (splitL P n (trn n (rotD d n) s), 0) := by
  unfold shiftS
  rw [if_neg (by simp [both_ok h.h7 h.le h.pr (bank_split h)])]
  congr 1
  rw [splitL_len]
  unfold splitL
  rw [trn_len _ h]
  refine fullL_congr fun t ht => ?_
  unfold shiftR
  rw [fullL_getD _ _ _ _ ht]
  unfold spF
  rw [shift_row h.ok]
  refine congrArg (fwdL P) (fullL_congr fun k hk => ?_)
  rw [trn_smp h ht hk]
theorem back_back {n : Nat} {d : Int} (h : 1 ≤ n) {k : Nat} (hk : k < n) : backI n (rotD d n) (backI n (rotD (-d) n) k) = k := by
  have h1 := rotD_lt d h
  have h2 := rotD_lt (-d) h
  have h3 := rot_neg (d := d) h
  have h4 := backI_lt (n := n) (D := rotD (-d) n) (m := k) h
  rw [backI_iff h1 h4 hk]
  unfold backI at h4 ⊢
  rcases Nat.eq_zero_or_pos (rotD d n + rotD (-d) n) with h5 | h5
  · have e1 : rotD (-d) n = 0 := by omega
    have e2 : rotD d n = 0 := by omega
    rw [e1, e2, Nat.sub_zero, Nat.add_zero, Nat.add_mod_right]
  · have e1 : rotD d n + rotD (-d) n = n := by
      have := Nat.dvd_of_mod_eq_zero h3
      obtain ⟨q, hq⟩ := this
      have : q = 1 := by
        rcases Nat.lt_trichotomy q 1 with h6 | h6 | h6
        · have : q = 0 := by omega
          subst this; omega
        · exact h6
        · have : n * 2 ≤ n * q := Nat.mul_le_mul_left n h6
          omega
      subst this
      omega
    congr 1
    omega
theorem trn_back {P n : Nat} {s : List Int} (h : Strm P n s) (d : Int) : trn n (rotD (-d) n) (trn n (rotD d n) s) = s := by
  have h1 := trn_strm (rotD d n) h
  have e1 := trn_len (rotD d n) h
  apply list_ext_getD (d := 0) (by rw [trn_len _ h1, e1])
  intro j hj
  rw [trn_len _ h1, e1, ← h.mul] at hj
  obtain ⟨t, k, rfl, hk, ht⟩ := div_bd h.n1 hj
  rw [trn_at (by rw [e1]; exact ht) hk, trn_smp h ht (backI_lt h.n1), back_back h.n1 hk]
  rfl
/-! ### powers -/
theorem corF_congr {n : Nat} {X X' Y Y' : Nat → Int} (hn : 1 ≤ n) (h : ∀ k, k < n → X k = X' k) (h' : ∀ k, k < n → Y k = Y' k) (m : Nat) : corF n X Y m = corF n X' Y' m := by
  unfold corF
  exact S_congr fun u hu => by rw [h u hu, h' _ (Nat.mod_lt _ hn)]
theorem pow_split {P n : Nat} {s u : List Int} (h : Strm P n s) (h' : Strm P n u) (hl : s.length = u.length) (h0 : 0 < s.length) :
    powS (P : Int) (splitL P n s) (splitL P n u) = (fullL (fun k => S (fun i => if (true : Bool) = true then prK P n (smp n u i) (smp n s i) k else 0) (s.length / n) % (P : Int)) n, 0) := by
  have b1 := bank_split h
  have b2 := bank_split h'
  have hN : 0 < s.length / n := by
    have := h.mul
    rcases Nat.eq_zero_or_pos (s.length / n) with h1 | h1
    · rw [h1] at this; omega
    · exact h1
  have l1 := splitL_len P n s
  have l2 := splitL_len P n u
  have w1 := b1.wid (by omega)
  have w2 := b2.wid (by rw [l2, ← hl]; omega)
  have ht : twoE (P : Int) (splitL P n s) (splitL P n u) = 0 := by
    unfold twoE
    rw [if_neg (by simp [both_ok h.h7 h.le h.pr b1]), if_neg (by simp [bank_ok b2]), if_neg]
    rw [l1, l2, w1, w2, hl]
    simp
  unfold powS
  rw [if_neg (by simp [ht]), w1]
  congr 1
  refine fullL_congr fun k hk => ?_
  unfold powF
  have hP : 0 < (P : Int) := by have := h.h7; omega
  rw [sumM_S hP, l1]
  congr 1
  refine S_congr fun i hi => ?_
  rw [if_pos rfl]
  unfold prK
  rw [bat_at (by rw [l1]; exact hi), bat_at (by rw [l2, ← hl]; exact hi)]
  unfold splitL
  rw [fullL_get, fullL_get]
  unfold spF
  exact Int.mul_comm _ _
/-- **The inverse transform of the power of two banks: sums of products.** -/
theorem pow_back {P n : Nat} {s u : List Int} (h : Strm P n s) (h' : Strm P n u) (hl : s.length = u.length) (h0 : 0 < s.length) :
    bkS (P : Int) (powS (P : Int) (splitL P n s) (splitL P n u)).1 = (resL P n (fun m => S (fun i => corF n (smp n u i) (smp n s i) m) (s.length / n)), 0) := by
  rw [pow_split h h' hl h0]
  have := sum_back h.ok (s.length / n) (fun _ => true) (smp n u) (smp n s)
  simp only [if_true] at this ⊢
  exact this
/-! ### channels -/
def notL (kp : List Bool) : List Bool := kp.map (fun x => !x)
theorem keep_ok {P n : Nat} {b : List (List Int)} (h7 : 7 ≤ P) (h2 : P ≤ 2000000000) (hP : Pr P) (h : Bank P n b) {kp : List Bool} (hk : kp.length = n) : keepS (P : Int) b kp = (grd (keepF b kp) (wid b) b.length, 0) := by
  unfold keepS
  rw [if_neg (by simp [both_ok h7 h2 hP h]), if_neg]
  rintro ⟨h0, h1⟩
  rw [h.wid h0] at h1
  exact h1 hk
theorem grd_get {F : Nat → Nat → Int} {n N t : Nat} (h : t < (grd F n N).length) : (grd F n N)[t] = fullL (F t) n := fullL_get _ _ _ h
theorem bank_grd {P n N : Nat} (h1 : 1 ≤ n) (h16 : n ≤ 16) (hd : ((P : Int) - 1) % (n : Int) = 0) (hN : N ≤ 256) (F : Nat → Nat → Int) (hF : ∀ t k, t < N → k < n → 0 ≤ F t k ∧ F t k < P) : Bank P n (grd F n N) := by
  refine ⟨by rw [grd_len]; exact hN, fun t ht => ?_⟩
  have ht2 : t < N := by rw [grd_len] at ht; exact ht
  rw [grd_get ht]
  refine ⟨fullL_len _ _, h1, h16, hd, fun j hj => ?_⟩
  rw [fullL_getD _ _ _ _ hj]
  exact hF t j ht2 hj
theorem bat_grd {F : Nat → Nat → Int} {n N t k : Nat} (ht : t < N) (hk : k < n) : bat (grd F n N) t k = F t k := by
  unfold bat grd
  rw [fullL_getD _ _ _ _ ht, fullL_getD _ _ _ _ hk]
theorem grd_congr {F G : Nat → Nat → Int} {n N : Nat} (h : ∀ t k, t < N → k < n → F t k = G t k) : grd F n N = grd G n N := fullL_congr fun t ht => fullL_congr fun k hk => h t k ht hk
theorem grd_self {P n : Nat} {b : List (List Int)} (h : Bank P n b) : grd (bat b) n b.length = b := by
  apply List.ext_getElem (grd_len _ _ _)
  intro t h1 h2
  rw [grd_get h1]
  have e := (h.row t h2).1
  rw [← e]
  exact (fullL_congr fun k _ => bat_at h2 k).trans (fullL_id _)
theorem Bank.bd {P n : Nat} {b : List (List Int)} (h : Bank P n b) {t k : Nat} (ht : t < b.length) (hk : k < n) : 0 ≤ bat b t k ∧ bat b t k < P := by
  rw [bat_at ht]; exact (h.row t ht).2.2.2.2 k hk
theorem two_ok {P n : Nat} {a b : List (List Int)} (h7 : 7 ≤ P) (h2 : P ≤ 2000000000) (hP : Pr P) (ha : Bank P n a) (hb : Bank P n b) (hl : a.length = b.length) : twoE (P : Int) a b = 0 := by
  unfold twoE
  rw [if_neg (by simp [both_ok h7 h2 hP ha]), if_neg (by simp [bank_ok hb]), if_neg]
  rintro (h | h)
  · exact h hl
  · rcases Nat.eq_zero_or_pos a.length with h0 | h0
    · rw [List.eq_nil_of_length_eq_zero h0, List.eq_nil_of_length_eq_zero (hl.symm.trans h0)] at h
      exact h rfl
    · rw [ha.wid h0, hb.wid (by omega)] at h
      exact h rfl
theorem wid_n {P n : Nat} {b : List (List Int)} (h : Bank P n b) {F : Nat → Nat → Int} : grd F (wid b) b.length = grd F n b.length := by
  rcases Nat.eq_zero_or_pos b.length with h0 | h0
  · rw [h0]; rfl
  · rw [h.wid h0]
theorem notL_len (kp : List Bool) : (notL kp).length = kp.length := by simp [notL]
theorem notL_at {kp : List Bool} {k : Nat} (h : k < kp.length) : (notL kp).getD k false = !(kp.getD k false) := by
  simp [notL, List.getD_eq_getElem?_getD, List.getElem?_eq_getElem h]
def kpL (n : Nat) (b : List (List Int)) (kp : List Bool) : List (List Int) := grd (keepF b kp) n b.length
theorem keep_ok2 {P n : Nat} {b : List (List Int)} (h7 : 7 ≤ P) (h2 : P ≤ 2000000000) (hP : Pr P) (h : Bank P n b) {kp : List Bool} (hk : kp.length = n) : keepS (P : Int) b kp = (kpL n b kp, 0) := by
  rw [keep_ok h7 h2 hP h hk, wid_n h]; rfl
theorem keep_bd {P n : Nat} {b : List (List Int)} (h2 : 0 < P) (h : Bank P n b) (kp : List Bool) {t k : Nat} (ht : t < b.length) (hk : k < n) : 0 ≤ keepF b kp t k ∧ keepF b kp t k < P := by
  unfold keepF
  split
  · exact h.bd ht hk
  · omega
theorem bank_kp {P n : Nat} {b : List (List Int)} (h2 : 0 < P) (h1 : 1 ≤ n) (h16 : n ≤ 16) (hd : ((P : Int) - 1) % (n : Int) = 0) (h : Bank P n b) (kp : List Bool) : Bank P n (kpL n b kp) :=
  bank_grd h1 h16 hd h.len _ fun t k ht hk => keep_bd h2 h kp ht hk
theorem kpL_len (n : Nat) (b : List (List Int)) (kp : List Bool) : (kpL n b kp).length = b.length := grd_len _ _ _
theorem keep_twice {P n : Nat} {b : List (List Int)} (h : Bank P n b) (kp : List Bool) : kpL n (kpL n b kp) kp = kpL n b kp := by
  unfold kpL
  rw [grd_len]
  refine grd_congr fun t k ht hk => ?_
  unfold keepF
  split
  · rw [bat_grd ht hk]
    rename_i h1
    rw [if_pos h1]
  · rfl
theorem add_ok {P n : Nat} {a b : List (List Int)} (h7 : 7 ≤ P) (h2 : P ≤ 2000000000) (hP : Pr P) (ha : Bank P n a) (hb : Bank P n b) (hl : a.length = b.length) : addS (P : Int) a b = (grd (addF P a b) n a.length, 0) := by
  unfold addS
  rw [if_neg (by simp [two_ok h7 h2 hP ha hb hl]), wid_n ha]
theorem keep_both {P n : Nat} {b : List (List Int)} (h7 : 7 ≤ P) (h : Bank P n b) {kp : List Bool} (hk : kp.length = n) : grd (addF P (kpL n b kp) (kpL n b (notL kp))) n b.length = b := by
  refine Eq.trans (grd_congr (G := bat b) fun t k ht hk2 => ?_) (grd_self h)
  unfold addF kpL
  rw [bat_grd ht hk2, bat_grd ht hk2]
  unfold keepF
  rw [notL_at (by omega)]
  have := h.bd ht hk2
  cases kp.getD k false
  · simp; exact Int.emod_eq_of_lt this.1 this.2
  · simp; exact Int.emod_eq_of_lt this.1 this.2
def sumL (s u : List Int) : List Int := fullL (fun j => s.getD j 0 + u.getD j 0) s.length
theorem sumL_len (s u : List Int) : (sumL s u).length = s.length := fullL_len _ _
theorem add_split {P n : Nat} {s u : List Int} (h : Strm P n s) (h' : Strm P n u) (hl : s.length = u.length) :
    grd (addF P (splitL P n s) (splitL P n u)) n (splitL P n s).length = fullL (fun t => fwdL P (resL P n (fun k => smp n s t k + smp n u t k))) (s.length / n) := by
  rw [splitL_len]
  refine fullL_congr fun t ht => ?_
  have hf := fit_res h.ok (smp n s t)
  have hg := fit_res h.ok (smp n u t)
  have e : resL P n (fun k => smp n s t k + smp n u t k) = fullL (fun k => ((resL P n (smp n s t)).getD k 0 + (resL P n (smp n u t)).getD k 0) % (P : Int)) (resL P n (smp n s t)).length := by
    rw [resL_len]
    refine fullL_congr fun k hk => ?_
    rw [resL_at P _ hk, resL_at P _ hk]
    exact Int.add_emod _ _ _
  rw [e, fwd_add hf (by rw [resL_len, resL_len]), resL_len]
  refine fullL_congr fun k hk => ?_
  unfold addF
  rw [bat_at (by rw [splitL_len]; exact ht), bat_at (by rw [splitL_len, ← hl]; exact ht)]
  unfold splitL
  rw [fullL_get, fullL_get]
  rfl
/-- **The sum of two banks merges to the sum of both streams, where that is one.** -/
theorem merge_add {P n : Nat} {s u : List Int} (h : Strm P n s) (h' : Strm P n u) (hl : s.length = u.length) (h13 : 13 ≤ P) :
    mergeS (P : Int) (grd (addF P (splitL P n s) (splitL P n u)) n (splitL P n s).length) = if (sumL s u).any badS = true then ([], 16) else (sumL s u, 0) := by
  have hdl : s.length / n ≤ 256 := by have := h.len; have := Nat.div_le_self s.length n; omega
  rw [add_split h h' hl, merge_ok h.h7 h.le h.pr (bank_full h.ok h.n16 hdl _) (by rw [fullL_len, h.mul]; exact h.len)]
  have e : mrgL P (fullL (fun t => fwdL P (resL P n (fun k => smp n s t k + smp n u t k))) (s.length / n)) = sumL s u := by
    rw [mrg_full, flat_congr (g := fun t => fullL (smp n (sumL s u) t) n)]
    · have hm : s.length / n * n = (sumL s u).length := by rw [sumL_len]; exact h.mul
      rw [range_flat n (sumL s u) _ (Nat.le_of_eq hm), hm, List.take_length]
    · intro t ht
      rw [mrR_fwd h.ok _ (fun k _ => by have := smp_bd h t k; have := smp_bd h' t k; omega)]
      refine fullL_congr fun k hk => ?_
      unfold smp sumL
      have hj : t * n + k < s.length := by
        have h1 : (t + 1) * n ≤ s.length / n * n := Nat.mul_le_mul_right n ht
        rw [Nat.succ_mul, h.mul] at h1
        omega
      rw [fullL_getD _ _ _ _ hj]
  rw [e]
end Bk
end Go.Proofs.Ytnhjeelcgfobnaa
