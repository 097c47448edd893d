/-
  Layer 17: what it computes. Contracts: cross.isSpectrum, Spectrum, Product, Values, ones.
  Layer 17, contracts of the reference: element, Valid, Spectrum, Product, Values.
-/
import Derived.Test.YtcpmpfnickhojaaPFouN
import Derived.Test.YtcpmpfnickhojaaPLag
import Derived.Test.YtcpmpfnickhojaaPAppend
import Derived.Test.YtcpmpfnickhojaaPFouG
import Derived.Deep.AppendLies
import Derived.Deep.RegionHeld3
namespace Go.Proofs.Ytcpmpfnickhojaa
open Go.RowKit Num Dft
set_option linter.unusedVariables false
set_option linter.unusedSimpArgs false
namespace Crs

theorem info_int : (Try.prog.info? 3).map (fun i => (i.zero, i.size, i.bytes)) = some (some (.int .i64 0), 1, 8) := by kernel_rfl
theorem pr_tr {n F : Nat} (h : 2 ≤ n) (hf : ∀ d, d ≤ F → 2 ≤ d → ¬ d ∣ n) (hn : n < (F + 1) * (F + 1)) : Pr n := by
  refine pr_trial h (fun d h2 hd => ?_)
  rcases Nat.lt_or_ge F d with h3 | h3
  · exfalso
    have := Nat.mul_le_mul h3 h3
    have : (F + 1) * (F + 1) ≤ d * d := this
    omega
  · exact hf d h3 h2
theorem pr_7681 : Pr 7681 := pr_tr (F := 87) (by omega) (by decide +kernel) (by omega)
theorem ok_p : Ok 7681 64 := ⟨pr_7681, by omega, by omega, by omega, by decide⟩
/-- The samples as a list of 64 numbers. -/
def padL (xs : List Int) : List Int := fullL (fun k => xs.getD k 0) 64
noncomputable def spcL (xs : List Int) : List Int := fwdL 7681 (resL 7681 64 (fun k => xs.getD k 0))
noncomputable def spcS (xs : List Int) : List Int × Int := if streamErr xs ≠ 0 then ([], streamErr xs) else if 32 < xs.length then ([], 4) else (spcL xs, 0)
def isSpB (a : List Int) : Bool := decide (a.length = 64 ∧ ∀ j, j < a.length → 0 ≤ a.getD j 0 ∧ a.getD j 0 < 7681)
def prdF (a b : List Int) (k : Nat) : Int := a.getD ((64 - k) % 64) 0 * b.getD k 0 % 7681
def prdL (a b : List Int) : List Int := fullL (prdF a b) 64
def prdS (a b : List Int) : List Int × Int := if isSpB a = true then (if isSpB b = true then (prdL a b, 0) else ([], 8)) else ([], 8)
noncomputable def vlF (a : List Int) (k : Nat) : Int := sgF 7681 (bkL 7681 a) k
noncomputable def vlL (a : List Int) : List Int := fullL (vlF a) 64
noncomputable def vlS (a : List Int) : List Int × Int := if isSpB a = true then (vlL a, 0) else ([], 8)
theorem spcS_err {xs : List Int} (h : ¬ streamErr xs = 0) : spcS xs = ([], streamErr xs) := by simp [spcS, h]
theorem spcS_many {xs : List Int} (h : streamErr xs = 0) (h2 : 32 < xs.length) : spcS xs = ([], 4) := by simp [spcS, h, h2]
theorem spcS_ok {xs : List Int} (h : streamErr xs = 0) (h2 : xs.length ≤ 32) : spcS xs = (spcL xs, 0) := by
  have : ¬ 32 < xs.length := by omega
  simp [spcS, h, this]
theorem spcL_len (xs : List Int) : (spcL xs).length = 64 := by unfold spcL; rw [fwdL_len, resL_len]
theorem prdL_len (a b : List Int) : (prdL a b).length = 64 := fullL_len _ _
theorem vlL_len (a : List Int) : (vlL a).length = 64 := fullL_len _ _
theorem sp_len {a : List Int} (h : isSpB a = true) : a.length = 64 := (of_decide_eq_true h).1
theorem fit_sp {a : List Int} (h : isSpB a = true) : Fit 7681 a := by
  obtain ⟨h1, h2⟩ := of_decide_eq_true h
  exact fit_len (fit_res ok_p (fun _ => 0)) (by rw [resL_len]; exact h1) h2
theorem sp_fit {a : List Int} (h : Fit 7681 a) (hl : a.length = 64) : isSpB a = true := decide_eq_true ⟨hl, h.el⟩
theorem sp_spc (xs : List Int) : isSpB (spcL xs) = true := sp_fit (fit_fwd (fit_res ok_p _)) (spcL_len xs)
theorem sp_chk {a : List Int} (h : a.length = 64) : (chkL 7681 a = 0 ∧ isSpB a = true) ∨ (¬ chkL 7681 a = 0 ∧ isSpB a = false) := by
  rcases chkL_cases 7681 a with ⟨e0, P, hP, hF⟩ | e0
  · obtain rfl : P = 7681 := by omega
    exact .inl ⟨e0, sp_fit hF h⟩
  · refine .inr ⟨e0, ?_⟩
    rw [Bool.eq_false_iff]
    intro h2
    exact e0 (chkL_ok (fit_sp h2))
theorem chk_sp {l : List Int} (h : Fit 7681 l) : chkL 7681 l = 0 := chkL_ok h
theorem fwd_sp {l : List Int} (h : Fit 7681 l) : fwdS 7681 l = (fwdL 7681 l, 0) := by
  unfold fwdS; rw [if_pos (chk_sp h)]; rfl
theorem bk_sp {l : List Int} (h : Fit 7681 l) : bkS 7681 l = (bkL 7681 l, 0) := by
  unfold bkS; rw [if_pos (chk_sp h)]; rfl
theorem sg_sp {l : List Int} (h : Fit 7681 l) : sgS 7681 l = (fullL (sgF 7681 l) l.length, 0) := by
  unfold sgS; rw [if_pos (chk_sp h)]; rfl
theorem rd_pad {xs : List Int} (h : ∀ i, -3 ≤ xs.getD i 0 ∧ xs.getD i 0 ≤ 3) : rdS 7681 (padL xs) = (resL 7681 64 (fun k => xs.getD k 0), 0) := by
  have hl : (padL xs).length = 64 := fullL_len _ _
  have hok : okP 7681 = true := okP_iff.2 ⟨7681, rfl, by omega, by omega, pr_7681⟩
  unfold rdS
  rw [if_pos hok, if_neg (by rw [hl]; omega), any2_false (fun j hj => ?_), if_neg (by simp), hl]
  · refine congrArg (fun l => (l, (0 : Int))) (fullL_congr fun k hk => ?_)
    unfold rdF padL
    rw [fullL_getD _ _ _ _ hk]
    rfl
  · rw [hl] at hj
    unfold padL
    rw [fullL_getD _ _ _ _ hj]
    have := h j
    omega
theorem strm_bd {xs : List Int} (h : streamErr xs = 0) (i : Nat) : -3 ≤ xs.getD i 0 ∧ xs.getD i 0 ≤ 3 := by
  rcases Lagw.stream_at h i with e | e | e | e | e <;> rw [e] <;> omega
theorem part_pad {xs : List Int} (h : xs.length ≤ 64) : partL (fun k => xs.getD k 0) 0 64 xs.length = padL xs := by
  refine list_ext_getD (d := 0) (by rw [partL_len]; exact (fullL_len _ _).symm) (fun j hj => ?_)
  rw [partL_len] at hj
  unfold padL
  rw [fullL_getD _ _ _ _ hj, getD_lt _ _ (by rw [partL_len]; exact hj)]
  simp only [partL, List.getElem_map, List.getElem_range]
  split
  · rfl
  · rename_i h1
    exact (getD_out (by omega)).symm

theorem fwd_w (l r : List Int) (n m : Nat) (hn : l.length = n) (hm : r.length = m) (h : fwdS 7681 l = (r, 0)) (A : Option Addr) (c : Nat) (w : World) (hx : RI .i64 w A l) (hl : n ≤ 1000) :
    Calls Try.prog 32 #[.int .i64 7681, .slice A n c] w fun e w' => ∃ A c, e = .returned (.tuple #[.slice A m c, .int .i64 0]) ∧ Lol.RIo .i64 w.heap.size w' A r ∧ m ≤ c ∧ Below w.heap.size w w' := by
  subst hn; subst hm
  have := fwdN_any 7681 A c l w hx (by omega) (by omega) (by omega)
  rw [h] at this
  exact this
theorem bk_w (l r : List Int) (n m : Nat) (hn : l.length = n) (hm : r.length = m) (h : bkS 7681 l = (r, 0)) (A : Option Addr) (c : Nat) (w : World) (hx : RI .i64 w A l) (hl : n ≤ 1000) :
    Calls Try.prog 36 #[.int .i64 7681, .slice A n c] w fun e w' => ∃ A c, e = .returned (.tuple #[.slice A m c, .int .i64 0]) ∧ RI .i64 w' A r ∧ Below w.heap.size w w' := by
  subst hn; subst hm
  have := back_any 7681 A c l w hx (by omega) (by omega) (by omega)
  rw [h] at this
  exact this
theorem sg_w (l r : List Int) (n m : Nat) (hn : l.length = n) (hm : r.length = m) (h : sgS 7681 l = (r, 0)) (A : Option Addr) (c : Nat) (w : World) (hx : RI .i64 w A l) (hl : n ≤ 1000) :
    Calls Try.prog 37 #[.int .i64 7681, .slice A n c] w fun e w' => ∃ A c, e = .returned (.tuple #[.slice A m c, .int .i64 0]) ∧ Lol.RIo .i64 w.heap.size w' A r ∧ m ≤ c ∧ Below w.heap.size w w' := by
  subst hn; subst hm
  have := signedN_any 7681 A c l w hx (by omega) (by omega) (by omega)
  rw [h] at this
  exact this
theorem rd_w (l r : List Int) (n m : Nat) (hn : l.length = n) (hm : r.length = m) (h : rdS 7681 l = (r, 0)) (A : Option Addr) (c : Nat) (w : World) (hx : RI .i64 w A l) (hl : n ≤ 1000) :
    Calls Try.prog 31 #[.int .i64 7681, .slice A n c] w fun e w' => ∃ A c, e = .returned (.tuple #[.slice A m c, .int .i64 0]) ∧ RI .i64 w' A r ∧ Below w.heap.size w w' := by
  subst hn; subst hm
  have := reduce_any 7681 A c l w hx (by omega) (by omega) (by omega)
  rw [h] at this
  exact this
theorem mk64 (w : World) : (Instr.makeSlice 23 (.int .i64 64) (.int .i64 64)).run Try.prog w = .ok (.slice (some ⟨w.heap.size, 0, none⟩) 64 64) (w.alloc (.cells ((List.replicate 64 (0 : Int)).flatMap (encI .i64)).toArray 2)) := by
  obtain ⟨i0, hi0, hz0, hz1, hz2⟩ := info_int64
  exact mk_row (P := Try.prog) 23 2 Try.underlying23 hi0 hz0 hz1 hz2 (encI .i64) (encI_len .i64) (by omega) 0 rfl 64 (by omega) (by omega) w
theorem isSp_any (A : Option Addr) (c : Nat) (a : List Int) (w : World) (hx : RI .i64 w A a) (hl : a.length ≤ 9223372036854775807) :
    Calls Try.prog 35 #[.slice A a.length c] w fun e w' => e = .returned (.bool (isSpB a)) ∧ Below w.heap.size w w' := by
  by_cases h : a.length = 64
  · have d1 : ((a.length : Int) == 64) = true := by rw [beq_iff_eq]; omega
    have HK := fun w hx => chkF_any 7681 A c a w hx hl (by omega) (by omega)
    rcases sp_chk h with ⟨e0, e1⟩ | ⟨e0, e1⟩
    · rw [e0] at HK
      have HE := Lib.hid e1
      clear e0 e1 h
      go_enter Try.func35, Try.ntmps35
      go_wp2_with fail
      refine (HK _ hx).mono ?_
      rintro _ w1 ⟨rfl, hb1⟩
      go_wp2
      go_ret
      exact ⟨ret_bool HE.out.symm, hb1⟩
    · have HE := Lib.hid e1
      have d2 : (chkL 7681 a == 0) = false := by rw [beq_eq_false_iff_ne]; exact e0
      clear e0 e1 h
      go_enter Try.func35, Try.ntmps35
      go_wp2_with fail
      refine (HK _ hx).mono ?_
      rintro _ w1 ⟨rfl, hb1⟩
      go_wp2
      go_ret
      exact ⟨ret_bool HE.out.symm, hb1⟩
  · have d1 : ((a.length : Int) == 64) = false := by rw [beq_eq_false_iff_ne]; omega
    have HE : Hid (isSpB a = false) := Lib.hid (decide_eq_false fun h2 => h h2.1)
    clear h
    go_enter Try.func35, Try.ntmps35
    go_wp2
    go_ret
    exact ⟨ret_bool HE.out.symm, Below.refl _ _⟩

set_option maxHeartbeats 1000000 in
theorem spectrum_any (A : Option Addr) (c : Nat) (xs : List Int) (w : World) (hx : RI .i64 w A xs) (hl : xs.length ≤ 140737488355328) :
    Calls Try.prog 10 #[.slice A xs.length c] w (RetN w (spcS xs)) := by
  rcases (Decidable.em (streamErr xs = 0)).symm with he | he
  · have e1 : (streamErr xs != 0) = true := by simp [he]
    have HR := Lib.hid (spcS_err he)
    clear he
    go_enter Try.func10, Try.ntmps10
    go_wp2_with fail
    refine (sampleCheck_any _ _ _ _ hx hl).mono ?_
    rintro _ _ ⟨rfl, rfl⟩
    go_wp2
    go_ret2
    exact RetN.no HR.out (Below.refl _ _)
  have e1 : (streamErr xs != 0) = false := by simp [he]
  by_cases h32 : 32 < xs.length
  · have HR := Lib.hid (spcS_many he h32)
    have d1 : decide (32 < xs.length) = true := decide_eq_true h32
    clear he
    go_enter Try.func10, Try.ntmps10
    go_wp2_with fail
    refine (sampleCheck_any _ _ _ _ hx hl).mono ?_
    rintro _ _ ⟨rfl, rfl⟩
    go_wp2
    go_ret2
    exact RetN.no HR.out (Below.refl _ _)
  have d1 : decide (32 < xs.length) = false := decide_eq_false h32
  have HR := Lib.hid (spcS_ok he (by omega))
  have HP := Lib.hid (part_pad (xs := xs) (by omega))
  have H1 := fun A c w hx => rd_w (padL xs) _ 64 64 (fullL_len _ _) (resL_len _ _ _) (rd_pad (strm_bd he)) A c w hx (by omega)
  have H2 := fun A c w hx => fwd_w (resL 7681 64 (fun k => xs.getD k 0)) (spcL xs) 64 64 (resL_len _ _ _) (spcL_len _) (fwd_sp (fit_res ok_p _)) A c w hx (by omega)
  clear he
  generalize resL 7681 64 (fun k => xs.getD k 0) = rs at *
  obtain ⟨i0, hi0, hz0, hz1, hz2⟩ := info_int64
  have hmk := mk64
  go_enter Try.func10, Try.ntmps10
  go_wp2_with fail
  refine (sampleCheck_any _ _ _ _ hx hl).mono ?_
  rintro _ _ ⟨rfl, rfl⟩
  go_wp2
  go_loopg [21] xs.length (fun gk i wr => ∃ k : Nat, k + gk = xs.length ∧ i = .int .i64 k ∧ Blk wr w.heap.size 2 ((partL (fun k => xs.getD k 0) 0 64 k).flatMap (encI .i64)).toArray ∧ Below w.heap.size w wr)
  case atStart => exact ⟨0, by omega, rfl, by rw [partL_start]; exact Blk.new w 2 _, balloc (Below.refl _ _) _⟩
  case round =>
    obtain ⟨k, hk, rfl, hO, hb⟩ := hrel
    have hk' : k ≤ xs.length := by omega
    have HK := Lib.hid hk
    clear hk hmk
    by_cases hlt : k < xs.length
    · obtain ⟨b1, off1, rfl, hlw1, hc1⟩ := (hx.keep hb).at2 hlt
      have o0 := blkI_at hO (j := k) (by rw [partL_len]; omega)
      have of0 := hO.frozen k
      have hgl := hO.lt
      have HM := Lib.hid (partL_set (fun k => xs.getD k 0) 0 64 k (xs.getD k 0) rfl)
      generalize xs.getD k 0 = X at *
      go_wp2
      go_roundg (gk - 1)
      case rel => exact ⟨k + 1, by have := HK.out; omega, by go_num, by rw [← HM.out]; exact blkI_set hO (by rw [partL_len]; omega) _, hb.setCell (p := ⟨w.heap.size, k, none⟩) (Nat.le_refl _) _⟩
      case measure => have := HK.out; omega
    · obtain rfl : k = xs.length := by omega
      rw [HP.out] at hO
      have r1 : RI .i64 wr (some ⟨w.heap.size, 0, none⟩) (padL xs) := blk_RI hO
      clear HP hk' HK hO
      go_wp2_with fail
      refine (H1 _ _ _ r1).mono ?_
      rintro _ w2 ⟨A2, c2, rfl, r2, hb2⟩
      have hB2 := bstep hb hb2
      go_wp2_with fail
      refine (H2 _ _ _ r2).mono ?_
      rintro _ w3 ⟨A3, c3, rfl, r3, hc3, hb3⟩
      go_wp2
      go_ret2
      exact RetN.row HR.out (spcL_len _) (r3.mono hB2.size) hc3 (bstep hB2 hb3)

theorem prd_no1 {a b : List Int} (h : isSpB a = false) : prdS a b = ([], 8) := by simp [prdS, h]
theorem prd_no2 {a b : List Int} (h : isSpB a = true) (h2 : isSpB b = false) : prdS a b = ([], 8) := by simp [prdS, h, h2]
theorem prd_ok {a b : List Int} (h : isSpB a = true) (h2 : isSpB b = true) : prdS a b = (prdL a b, 0) := by simp [prdS, h, h2]
theorem vl_no {a : List Int} (h : isSpB a = false) : vlS a = ([], 8) := by simp [vlS, h]
theorem vl_ok {a : List Int} (h : isSpB a = true) : vlS a = (vlL a, 0) := by simp [vlS, h]
theorem mulZ {X Y : Int} (hx : 0 ≤ X ∧ X < 7681) (hy : 0 ≤ Y ∧ Y < 7681) : 0 ≤ X * Y ∧ X * Y ≤ 58982400 := by
  have h1 := Int.mul_nonneg hx.1 hy.1
  have h2 : X * Y ≤ 7680 * 7680 := Int.mul_le_mul (by omega) (by omega) hy.1 (by omega)
  omega
set_option maxHeartbeats 1000000 in
theorem product_any (A B : Option Addr) (c d : Nat) (a b : List Int) (w : World) (hx : RI .i64 w A a) (hy : RI .i64 w B b) (hl : a.length ≤ 9223372036854775807) (hl2 : b.length ≤ 9223372036854775807) :
    Calls Try.prog 12 #[.slice A a.length c, .slice B b.length d] w (RetN w (prdS a b)) := by
  cases h1 : isSpB a with
  | false =>
    have HR := Lib.hid (prd_no1 (b := b) h1)
    go_enter Try.func12, Try.ntmps12
    go_wp2_with fail
    refine (isSp_any _ _ _ _ hx hl).mono ?_
    rintro _ w1 ⟨rfl, hb1⟩
    rw [h1]
    go_wp2
    go_ret2
    exact RetN.no HR.out hb1
  | true =>
    cases h2 : isSpB b with
    | false =>
      have HR := Lib.hid (prd_no2 h1 h2)
      go_enter Try.func12, Try.ntmps12
      go_wp2_with fail
      refine (isSp_any _ _ _ _ hx hl).mono ?_
      rintro _ w1 ⟨rfl, hb1⟩
      rw [h1]
      go_wp2_with fail
      refine (isSp_any _ _ _ _ (hy.keep hb1) hl2).mono ?_
      rintro _ w2 ⟨rfl, hb2⟩
      rw [h2]
      go_wp2
      go_ret2
      exact RetN.no HR.out (bstep hb1 hb2)
    | true =>
      have HR := Lib.hid (prd_ok h1 h2)
      have HA := Lib.hid (fit_sp h1).el
      have HB := Lib.hid (fit_sp h2).el
      have hla : a.length ≤ 64 ∧ 64 ≤ a.length := by have := sp_len h1; omega
      have hlb : b.length ≤ 64 ∧ 64 ≤ b.length := by have := sp_len h2; omega
      obtain ⟨i0, hi0, hz0, hz1, hz2⟩ := info_int64
      have hmk := mk64
      go_enter Try.func12, Try.ntmps12
      go_wp2_with fail
      refine (isSp_any _ _ _ _ hx hl).mono ?_
      rintro _ w1 ⟨rfl, hb1⟩
      rw [h1]
      go_wp2_with fail
      refine (isSp_any _ _ _ _ (hy.keep hb1) hl2).mono ?_
      rintro _ w2 ⟨rfl, hb2⟩
      rw [h2]
      have hB2 := bstep hb1 hb2
      clear hb1 hb2 h1 h2
      go_wp2
      go_loopg [19] 64 (fun gk i wr => ∃ k : Nat, k + gk = 64 ∧ i = .int .i64 k ∧ Blk wr w2.heap.size 2 ((partL (prdF a b) 0 64 k).flatMap (encI .i64)).toArray ∧ Below w2.heap.size w2 wr)
      case atStart => exact ⟨0, by omega, rfl, by rw [partL_start]; exact Blk.new w2 2 _, balloc (Below.refl _ _) _⟩
      case round =>
        obtain ⟨k, hk, rfl, hO, hb⟩ := hrel
        have hk' : k ≤ 64 := by omega
        have HK := Lib.hid hk
        clear hk hmk
        by_cases hlt : k < 64
        · have hlb' : k < b.length := by omega
          have hm : (64 - k) % 64 < 64 := Nat.mod_lt _ (by omega)
          have hm' : (64 - k) % 64 < a.length := by omega
          obtain ⟨b1, off1, rfl, hlw1, hc1⟩ := ((hx.keep hB2).keep hb).at2 hm'
          obtain ⟨b2, off2, rfl, hlw2, hc2⟩ := ((hy.keep hB2).keep hb).at2 hlb'
          have bx := HA.out _ hm'
          have by' := HB.out k hlb'
          have o0 := blkI_at hO (j := k) (by rw [partL_len]; exact hlt)
          have of0 := hO.frozen k
          have hgl := hO.lt
          have HN := Lib.hid (show a.getD ((64 - k) % 64) 0 * b.getD k 0 % 7681 = prdF a b k from rfl)
          have g1 : IntKind.i64.wrap (64 - (k : Int)) = 64 - (k : Int) := IntWalk.i64_in _ (by omega)
          have g2 : (64 - (k : Int)) % 64 = (((64 - k) % 64 : Nat) : Int) := by omega
          have g3 : (64 - (k : Int)).tmod 64 = (((64 - k) % 64 : Nat) : Int) := by rw [Int.tmod_eq_emod_of_nonneg (by omega)]; exact g2
          generalize (64 - k) % 64 = m at *
          have fm := mulZ bx by'
          generalize a.getD m 0 = X at *
          generalize b.getD k 0 = Y at *
          obtain ⟨Z, hZ⟩ : ∃ Z, Z = X * Y := ⟨_, rfl⟩
          have hw2 : IntKind.i64.wrap (X * Y) = Z := by rw [IntWalk.i64_in _ (by omega), hZ]
          rw [← hZ] at HN fm
          clear hZ
          have HM := Lib.hid (partL_set (prdF a b) 0 64 k (Z % 7681) HN.out)
          go_wp2
          all_goals go_region
          all_goals go_wp2
          all_goals
            go_roundg (gk - 1)
            case rel => exact ⟨k + 1, by have := HK.out; omega, by go_num, by rw [← HM.out]; exact (blkI_set hO (by rw [partL_len]; exact hlt) _).drew, (hb.setCell (p := ⟨w2.heap.size, k, none⟩) (Nat.le_refl _) _).drew⟩
            case measure => have := HK.out; omega
        · rw [partL_end _ _ _ _ (by omega)] at hO
          go_wp2
          go_ret2
          exact RetN.blk HR.out (prdL_len _ _) hB2.size hO (bstep hB2 hb)
theorem values_any (A : Option Addr) (c : Nat) (a : List Int) (w : World) (hx : RI .i64 w A a) (hl : a.length ≤ 9223372036854775807) :
    Calls Try.prog 14 #[.slice A a.length c] w (RetN w (vlS a)) := by
  cases h1 : isSpB a with
  | false =>
    have HR := Lib.hid (vl_no h1)
    go_enter Try.func14, Try.ntmps14
    go_wp2_with fail
    refine (isSp_any _ _ _ _ hx hl).mono ?_
    rintro _ w1 ⟨rfl, hb1⟩
    rw [h1]
    go_wp2
    go_ret2
    exact RetN.no HR.out hb1
  | true =>
    have HR := Lib.hid (vl_ok h1)
    have hF := fit_sp h1
    have hlen := sp_len h1
    have hbl : (bkL 7681 a).length = 64 := by unfold bkL; rw [fullL_len]; exact hlen
    have H1 := fun A c w hx => bk_w a (bkL 7681 a) a.length 64 rfl hbl (bk_sp hF) A c w hx (by omega)
    have H2 := fun A c w hx => sg_w (bkL 7681 a) (vlL a) 64 64 hbl (vlL_len a) (by rw [sg_sp (fit_bk hF), hbl]; rfl) A c w hx (by omega)
    clear hF hlen hbl
    generalize bkL 7681 a = bs at *
    go_enter Try.func14, Try.ntmps14
    go_wp2_with fail
    refine (isSp_any _ _ _ _ hx hl).mono ?_
    rintro _ w1 ⟨rfl, hb1⟩
    rw [h1]
    go_wp2_with fail
    refine (H1 _ _ _ (hx.keep hb1)).mono ?_
    rintro _ w2 ⟨A2, c2, rfl, r2, hb2⟩
    have hB2 := bstep hb1 hb2
    go_wp2_with fail
    refine (H2 _ _ _ r2).mono ?_
    rintro _ w3 ⟨A3, c3, rfl, r3, hc3, hb3⟩
    go_wp2
    go_ret2
    exact RetN.row HR.out (vlL_len _) (r3.mono hB2.size) hc3 (bstep hB2 hb3)
def nzF (xs : List Int) (k : Nat) : Int := if xs.getD k 0 = 0 then 0 else 1
def nzL (xs : List Int) : List Int := fullL (nzF xs) xs.length
theorem partL_skip {f : Nat → Int} {n k : Nat} (h : f k = 0) : partL f 0 n k = partL f 0 n (k + 1) := by
  refine list_ext_getD (d := 0) (by rw [partL_len, partL_len]) (fun j hj => ?_)
  rw [partL_len] at hj
  rw [getD_lt _ _ (by rw [partL_len]; exact hj), getD_lt _ _ (by rw [partL_len]; exact hj)]
  simp only [partL, List.getElem_map, List.getElem_range]
  by_cases h1 : j < k
  · rw [if_pos h1, if_pos (by omega)]
  · rw [if_neg h1]
    by_cases h2 : j < k + 1
    · obtain rfl : j = k := by omega
      rw [if_pos h2, h]
    · rw [if_neg h2]
theorem ones_any (A : Option Addr) (c : Nat) (xs : List Int) (w : World) (hx : RI .i64 w A xs) (hl : xs.length ≤ 1000) :
    Calls Try.prog 41 #[.slice A xs.length c] w fun e w' => ∃ A c, e = .returned (.slice A xs.length c) ∧ RI .i64 w' A (nzL xs) ∧ xs.length ≤ c ∧ Below w.heap.size w w' := by
  obtain ⟨i0, hi0, hz0, hz1, hz2⟩ := info_parts info_int
  have hmk := mk_row (P := Try.prog) 22 3 Try.underlying22 hi0 hz0 hz1 hz2 (encI .i64) (encI_len .i64) (by omega) 0 rfl xs.length (by omega) (by omega)
  go_enter Try.func41, Try.ntmps41
  go_wp2
  go_loopg [11] xs.length (fun gk i wr => ∃ k : Nat, k + gk = xs.length ∧ i = .int .i64 k ∧ Blk wr w.heap.size 3 ((partL (nzF xs) 0 xs.length k).flatMap (encI .i64)).toArray ∧ Below w.heap.size w wr)
  case atStart => exact ⟨0, by omega, rfl, by rw [partL_start]; exact Blk.new w 3 _, balloc (Below.refl _ _) _⟩
  case round =>
    obtain ⟨k, hk, rfl, hO, hb⟩ := hrel
    have hk' : k ≤ xs.length := by omega
    have HK := Lib.hid hk
    clear hk hmk
    by_cases hlt : k < xs.length
    · obtain ⟨b1, off1, rfl, hlw1, hc1⟩ := (hx.keep hb).at2 hlt
      have o0 := blkI_at hO (j := k) (by rw [partL_len]; exact hlt)
      have of0 := hO.frozen k
      have hgl := hO.lt
      have HN := Lib.hid (show nzF xs k = if xs.getD k 0 = 0 then 0 else 1 from rfl)
      generalize xs.getD k 0 = X at *
      by_cases h0 : X = 0
      · have e1 : (X != 0) = false := by simp [h0]
        have HM := Lib.hid (partL_skip (f := nzF xs) (n := xs.length) (k := k) (by rw [HN.out, if_pos h0]))
        clear h0
        go_wp2
        go_roundg (gk - 1)
        case rel => exact ⟨k + 1, by have := HK.out; omega, by go_num, by rw [← HM.out]; exact hO, hb⟩
        case measure => have := HK.out; omega
      · have e1 : (X != 0) = true := by simp [h0]
        have HM := Lib.hid (partL_set (nzF xs) 0 xs.length k 1 (by rw [HN.out, if_neg h0]))
        clear h0
        go_wp2
        go_roundg (gk - 1)
        case rel => exact ⟨k + 1, by have := HK.out; omega, by go_num, by rw [← HM.out]; exact blkI_set hO (by rw [partL_len]; exact hlt) _, hb.setCell (p := ⟨w.heap.size, k, none⟩) (Nat.le_refl _) _⟩
        case measure => have := HK.out; omega
    · rw [partL_end _ _ _ _ (by omega)] at hO
      go_wp2
      go_ret
      exact ⟨_, _, rfl, blk_RI hO, Nat.le_refl _, hb⟩
end Crs
end Go.Proofs.Ytcpmpfnickhojaa
namespace Go.Proofs.Ytcpmpfnickhojaa
open Go.RowKit Num Dft
set_option linter.unusedVariables false
set_option linter.unusedSimpArgs false
namespace Crs

theorem element_any (x : Int) (w : World) (hx : -3 ≤ x ∧ x ≤ 3) :
    Calls Try.prog 33 #[.int .i64 x] w fun e w' => e = .returned (.int .i64 (x % 7681)) ∧ w = w' := by
  by_cases h : x < 0
  · have d1 : decide (x < 0) = true := decide_eq_true h
    have e : x % 7681 = x + 7681 := by omega
    rw [e]
    go_enter Try.func33, Try.ntmps33
    go_wp2
    go_ret
    exact ⟨rfl, rfl⟩
  · have d1 : decide (x < 0) = false := decide_eq_false h
    have e : x % 7681 = x := by omega
    rw [e]
    go_enter Try.func33, Try.ntmps33
    go_wp2
    go_ret
    exact ⟨rfl, rfl⟩
theorem refValid_any (A : Option Addr) (c : Nat) (a : List Int) (w : World) (hx : RI .i64 w A a) (hl : a.length ≤ 9223372036854775807) :
    Calls Try.prog 27 #[.slice A a.length c] w fun e w' => e = .returned (.bool (isSpB a)) ∧ w = w' := by
  go_enter Try.func27, Try.ntmps27
  go_wp2
  go_loopg [3] a.length (fun gk i wr => ∃ k : Nat, k + gk = a.length ∧ i = .int .i64 k ∧ wr = w ∧ Hid (∀ j, j < k → 0 ≤ a.getD j 0 ∧ a.getD j 0 < 7681))
  case atStart => exact ⟨0, by omega, rfl, rfl, Lib.hid (by intro j h; omega)⟩
  case round =>
    obtain ⟨k, hk, rfl, rfl, hall⟩ := hrel
    have hk' : k ≤ a.length := by omega
    have HK := Lib.hid hk
    clear hk
    by_cases hlt : k < a.length
    · obtain ⟨b1, off1, rfl, hlw1, hc1⟩ := hx.at2 hlt
      have HN : Hid ((0 ≤ a.getD k 0 ∧ a.getD k 0 < 7681) → ∀ j, j < k + 1 → 0 ≤ a.getD j 0 ∧ a.getD j 0 < 7681) := Lib.hid (fun h j hj => by
        rcases Nat.lt_or_ge j k with h1 | h1
        · exact hall.out j h1
        · obtain rfl : j = k := by omega
          exact h)
      have HF : Hid (¬ (0 ≤ a.getD k 0 ∧ a.getD k 0 < 7681) → isSpB a = false) := Lib.hid (fun h => decide_eq_false fun h2 => h (h2.2 k hlt))
      generalize a.getD k 0 = X at *
      rcases (show X < 0 ∨ (0 ≤ X ∧ X < 7681) ∨ (0 ≤ X ∧ 7681 ≤ X) by omega) with h | h | h
      · have d1 : decide (X < 0) = true := decide_eq_true h
        have HS := Lib.hid (HF.out (by omega))
        go_wp2
        go_ret
        exact ⟨ret_bool HS.out.symm, rfl⟩
      · have d1 : decide (X < 0) = false := decide_eq_false (by omega)
        have d2 : decide (7681 ≤ X) = false := decide_eq_false (by omega)
        have HS := Lib.hid (HN.out h)
        go_wp2
        go_roundg (gk - 1)
        case rel => exact ⟨k + 1, by have := HK.out; omega, by go_num, rfl, HS⟩
        case measure => have := HK.out; omega
      · have d1 : decide (X < 0) = false := decide_eq_false (by omega)
        have d2 : decide (7681 ≤ X) = true := decide_eq_true h.2
        have HS := Lib.hid (HF.out (by omega))
        go_wp2
        go_ret
        exact ⟨ret_bool HS.out.symm, rfl⟩
    · obtain rfl : k = a.length := by omega
      by_cases h : a.length = 64
      · have d1 : ((a.length : Int) == 64) = true := by rw [beq_iff_eq]; omega
        have HS : Hid (isSpB a = true) := Lib.hid (decide_eq_true ⟨h, hall.out⟩)
        clear h
        go_wp2
        go_ret
        exact ⟨ret_bool HS.out.symm, rfl⟩
      · have d1 : ((a.length : Int) == 64) = false := by rw [beq_eq_false_iff_ne]; omega
        have HS : Hid (isSpB a = false) := Lib.hid (decide_eq_false fun h2 => h h2.1)
        clear h
        go_wp2
        go_ret
        exact ⟨ret_bool HS.out.symm, rfl⟩

set_option maxHeartbeats 1000000 in
theorem refSpectrum_any (A : Option Addr) (c : Nat) (xs : List Int) (w : World) (hx : RI .i64 w A xs) (hl : xs.length ≤ 140737488355328) :
    Calls Try.prog 11 #[.slice A xs.length c] w (RetFE w (spcS xs)) := by
  rcases (Decidable.em (streamErr xs = 0)).symm with he | he
  · have e1 : (streamErr xs != 0) = true := by simp [he]
    have HR := Lib.hid (spcS_err he)
    clear he
    go_enter Try.func11, Try.ntmps11
    go_wp2_with fail
    refine (refCheck13_any _ _ _ _ hx hl).mono ?_
    rintro _ _ ⟨rfl, rfl⟩
    go_wp2_with fail
    refine (refCheck13_any _ _ _ _ hx hl).mono ?_
    rintro _ _ ⟨rfl, rfl⟩
    go_wp2
    go_ret2
    exact RetFE.no HR.out (Below.refl _ _)
  have e1 : (streamErr xs != 0) = false := by simp [he]
  by_cases h32 : 32 < xs.length
  · have HR := Lib.hid (spcS_many he h32)
    have d1 : decide (32 < xs.length) = true := decide_eq_true h32
    clear he
    go_enter Try.func11, Try.ntmps11
    go_wp2_with fail
    refine (refCheck13_any _ _ _ _ hx hl).mono ?_
    rintro _ _ ⟨rfl, rfl⟩
    go_wp2
    go_ret2
    exact RetFE.no HR.out (Below.refl _ _)
  have d1 : decide (32 < xs.length) = false := decide_eq_false h32
  have HR := Lib.hid (spcS_ok he (by omega))
  have HBD := Lib.hid (strm_bd he)
  have H2 : ∀ A c w, RI .i64 w A (resL 7681 64 (fun k => xs.getD k 0)) → Calls Try.prog 34 #[.int .i64 7681, .slice A 64 c] w fun e w' => ∃ A c, e = .returned (.tuple #[.slice A 64 c, .int .i64 0]) ∧ RI .i64 w' A (spcL xs) ∧ Below w.heap.size w w' := by
    intro A c w hx
    have h1 := refFwd_any 7681 A c (resL 7681 64 (fun k => xs.getD k 0)) w hx (by rw [resL_len]; omega) (by omega) (by omega)
    rw [fwd_sp (fit_res ok_p _), resL_len] at h1
    refine h1.mono ?_
    rintro e w' ⟨A', c', rfl, h2, h3⟩
    refine ⟨A', c', ?_, h2, h3⟩
    have e2 : (fwdL 7681 (resL 7681 64 fun k => xs.getD k 0)).length = 64 := spcL_len xs
    simp only [e2]
  have HRS : Hid (fullL (fun k => xs.getD k 0 % 7681) 64 = resL 7681 64 (fun k => xs.getD k 0)) := Lib.hid rfl
  clear he
  generalize resL 7681 64 (fun k => xs.getD k 0) = rs at *
  obtain ⟨i0, hi0, hz0, hz1, hz2⟩ := info_int64
  go_enter Try.func11, Try.ntmps11
  go_wp2_with fail
  refine (refCheck13_any _ _ _ _ hx hl).mono ?_
  rintro _ _ ⟨rfl, rfl⟩
  go_wp2
  go_loopg [4, 5] 64 (fun gk v i wr => ∃ k : Nat, k + gk = 64 ∧ i = .int .i64 k ∧ wr.ownsRow w.heap.size 2 1 v k ((fullL (fun k => xs.getD k 0 % 7681) k).flatMap (encI .i64)) ∧ Below w.heap.size w wr)
  case atStart => exact ⟨0, by omega, rfl, World.ownsRow_nil _ _ _ _, Below.refl _ _⟩
  case round =>
    obtain ⟨k, hk, rfl, hO, hb⟩ := hrel
    have hk' : k ≤ 64 := by omega
    have HK := Lib.hid hk
    clear hk
    have hsz := hb.size
    obtain ⟨A8, c8, rfl, hc8⟩ := own_shape' hO
    by_cases hlt : k < 64
    · by_cases hin : k < xs.length
      · have d2 : decide (k < xs.length) = true := decide_eq_true hin
        obtain ⟨b1, off1, rfl, hlw1, hc1⟩ := (hx.keep hb).at2 hin
        have hC := Lib.hid (fun w => element_any (xs.getD k 0) w (HBD.out k))
        have HS := Lib.hid (fullL_succ (fun k => xs.getD k 0 % 7681) k)
        have HY : Hid (xs.getD k 0 % 7681 = xs.getD k 0 % 7681) := Lib.hid rfl
        generalize hX : xs.getD k 0 = X at *
        obtain ⟨Y, hYe⟩ : ∃ Y, Y = X % 7681 := ⟨_, rfl⟩
        rw [← hYe] at hC
        have HYE := Lib.hid hYe
        have HXE := Lib.hid hX
        clear hYe hX HY
        go_wp2_with fail
        refine (hC.out _).mono ?_
        rintro _ _ ⟨rfl, rfl⟩
        go_wp2_with (at_builtin; refine wpList_append_own _ rfl _ _ 23 rfl w.heap.size 2 i0 _ 1 8 Try.underlying23 hi0 hz0 hz1 hz2 rfl (by decide) _ k _ rfl (hO.alloc _) ⟨wr.heap.size, 0, none⟩ 1 1 (encI .i64 Y) rfl rfl (encI_news _ _ _ _) (encI_one _ _) (by unfold maxLen; omega) (by omega) (by simp; omega) ?_; intro v2 w2 hown2 hgrow2 _)
        go_roundg (gk - 1)
        case rel => exact ⟨k + 1, by have := HK.out; omega, by go_num, by rw [HS.out, flat_snoc]; have hye := HYE.out; subst hye; exact hown2, own_below (hb.alloc hsz _) (hO.alloc _) hgrow2 (Nat.le_refl _) (by simp; omega)⟩
        case measure => have := HK.out; omega
      · have d2 : decide (k < xs.length) = false := decide_eq_false hin
        have HS := Lib.hid (fullL_succ (fun k => xs.getD k 0 % 7681) k)
        have HXE := Lib.hid (show xs.getD k 0 = 0 from getD_out (by omega))
        go_wp2_with (at_builtin; refine wpList_append_own _ rfl _ _ 23 rfl w.heap.size 2 i0 _ 1 8 Try.underlying23 hi0 hz0 hz1 hz2 rfl (by decide) _ k _ rfl (hO.alloc _) ⟨wr.heap.size, 0, none⟩ 1 1 (encI .i64 0) rfl rfl (encI_news _ _ _ _) (encI_one _ _) (by unfold maxLen; omega) (by omega) (by simp; omega) ?_; intro v2 w2 hown2 hgrow2 _)
        go_roundg (gk - 1)
        case rel => exact ⟨k + 1, by have := HK.out; omega, by go_num, by rw [HS.out, flat_snoc, HXE.out]; exact hown2, own_below (hb.alloc hsz _) (hO.alloc _) hgrow2 (Nat.le_refl _) (by simp; omega)⟩
        case measure => have := HK.out; omega
    · obtain rfl : k = 64 := by omega
      have r1 := own_RI_at (fullL_len _ _) hO
      rw [HRS.out] at r1
      clear HRS hO HBD HK
      go_wp2_with fail
      refine (H2 _ _ _ r1).mono ?_
      rintro _ w2 ⟨A2, c2, rfl, r2, hb2⟩
      go_wp2
      go_ret2
      exact RetFE.own HR.out (spcL_len _) r2 (bstep hb hb2)

set_option maxHeartbeats 1000000 in
theorem refValues_any (A : Option Addr) (c : Nat) (a : List Int) (w : World) (hx : RI .i64 w A a) (hl : a.length ≤ 9223372036854775807) :
    Calls Try.prog 15 #[.slice A a.length c] w (RetFE w (vlS a)) := by
  cases h1 : isSpB a with
  | false =>
    have HR := Lib.hid (vl_no h1)
    go_enter Try.func15, Try.ntmps15
    go_wp2_with fail
    refine (refValid_any _ _ _ _ hx hl).mono ?_
    rintro _ _ ⟨rfl, rfl⟩
    rw [h1]
    go_wp2
    go_ret2
    exact RetFE.no HR.out (Below.refl _ _)
  | true =>
    have HR := Lib.hid (vl_ok h1)
    have hF := fit_sp h1
    have hlen := sp_len h1
    have hbl : (bkL 7681 a).length = 64 := by unfold bkL; rw [fullL_len]; exact hlen
    have HEL := Lib.hid (fit_bk hF).el
    have H1 : ∀ w, RI .i64 w A a → Calls Try.prog 38 #[.int .i64 7681, .slice A a.length c] w fun e w' => ∃ A c, e = .returned (.tuple #[.slice A 64 c, .int .i64 0]) ∧ RI .i64 w' A (bkL 7681 a) ∧ Below w.heap.size w w' := by
      intro w hx
      have h2 := refBack_any 7681 A c a w hx (by omega) (by omega) (by omega)
      rw [bk_sp hF] at h2
      refine h2.mono ?_
      rintro e w' ⟨A', c', rfl, h3, h4⟩
      exact ⟨A', c', by simp only [hbl], h3, h4⟩
    have HV : Hid (∀ k, vlF a k = sgF 7681 (bkL 7681 a) k) := Lib.hid (fun _ => rfl)
    have HBL := Lib.hid hbl
    clear hF hlen hbl
    generalize bkL 7681 a = bs at *
    obtain ⟨i0, hi0, hz0, hz1, hz2⟩ := info_int64
    go_enter Try.func15, Try.ntmps15
    go_wp2_with fail
    refine (refValid_any _ _ _ _ hx hl).mono ?_
    rintro _ _ ⟨rfl, rfl⟩
    rw [h1]
    go_wp2_with fail
    refine (H1 _ hx).mono ?_
    rintro _ w2 ⟨A2, c2, rfl, r2, hb2⟩
    go_wp2
    go_loopg [6, 7] 64 (fun gk v i wr => ∃ k : Nat, k + gk = 64 ∧ i = .int .i64 k ∧ wr.ownsRow w2.heap.size 2 1 v k ((fullL (vlF a) k).flatMap (encI .i64)) ∧ Below w2.heap.size w2 wr)
    case atStart => exact ⟨0, by omega, rfl, World.ownsRow_nil _ _ _ _, Below.refl _ _⟩
    case round =>
      obtain ⟨k, hk, rfl, hO, hb⟩ := hrel
      have hk' : k ≤ 64 := by omega
      have HK := Lib.hid hk
      clear hk
      have hsz := hb.size
      obtain ⟨A8, c8, rfl, hc8⟩ := own_shape' hO
      by_cases hlt : k < 64
      · obtain ⟨b1, off1, rfl, hlw1, hc1⟩ := (r2.keep hb).at2 (i := k) (by rw [HBL.out]; exact hlt)
        have bx := HEL.out k (by rw [HBL.out]; exact hlt)
        have hC := Lib.hid (show ∀ w : World, Calls Try.prog 39 #[.int .i64 7681, .int .i64 (bs.getD k 0)] w fun e w' => e = .returned (.int .i64 (vlF a k)) ∧ w = w' from fun w => by
          rw [HV.out k]
          exact center_any 7681 (bs.getD k 0) w (by omega) bx)
        have HS := Lib.hid (fullL_succ (vlF a) k)
        generalize hY : vlF a k = Y at *
        have HY := Lib.hid hY
        clear hY
        generalize bs.getD k 0 = X at *
        go_wp2_with fail
        refine (hC.out _).mono ?_
        rintro _ _ ⟨rfl, rfl⟩
        go_wp2_with (at_builtin; refine wpList_append_own _ rfl _ _ 23 rfl w2.heap.size 2 i0 _ 1 8 Try.underlying23 hi0 hz0 hz1 hz2 rfl (by decide) _ k _ rfl (hO.alloc _) ⟨wr.heap.size, 0, none⟩ 1 1 (encI .i64 Y) rfl rfl (encI_news _ _ _ _) (encI_one _ _) (by unfold maxLen; omega) (by omega) (by simp; omega) ?_; intro v3 w3 hown3 hgrow3 _)
        go_roundg (gk - 1)
        case rel => exact ⟨k + 1, by have := HK.out; omega, by go_num, by rw [HS.out, flat_snoc]; exact hown3, own_below (hb.alloc hsz _) (hO.alloc _) hgrow3 (Nat.le_refl _) (by simp; omega)⟩
        case measure => have := HK.out; omega
      · obtain rfl : k = 64 := by omega
        go_wp2
        go_ret2
        exact RetFE.own HR.out (fullL_len _ _) (own_RI_at (fullL_len _ _) hO) (bstep hb2 hb)

set_option maxHeartbeats 1000000 in
theorem refProduct_any (A B : Option Addr) (c d : Nat) (a b : List Int) (w : World) (hx : RI .i64 w A a) (hy : RI .i64 w B b) (hl : a.length ≤ 9223372036854775807) (hl2 : b.length ≤ 9223372036854775807) :
    Calls Try.prog 13 #[.slice A a.length c, .slice B b.length d] w (RetFE w (prdS a b)) := by
  cases h1 : isSpB a with
  | false =>
    have HR := Lib.hid (prd_no1 (b := b) h1)
    go_enter Try.func13, Try.ntmps13
    go_wp2_with fail
    refine (refValid_any _ _ _ _ hx hl).mono ?_
    rintro _ _ ⟨rfl, rfl⟩
    rw [h1]
    go_wp2
    go_ret2
    exact RetFE.no HR.out (Below.refl _ _)
  | true =>
    cases h2 : isSpB b with
    | false =>
      have HR := Lib.hid (prd_no2 h1 h2)
      go_enter Try.func13, Try.ntmps13
      go_wp2_with fail
      refine (refValid_any _ _ _ _ hx hl).mono ?_
      rintro _ _ ⟨rfl, rfl⟩
      rw [h1]
      go_wp2_with fail
      refine (refValid_any _ _ _ _ hy hl2).mono ?_
      rintro _ _ ⟨rfl, rfl⟩
      rw [h2]
      go_wp2
      go_ret2
      exact RetFE.no HR.out (Below.refl _ _)
    | true =>
      have HR := Lib.hid (prd_ok h1 h2)
      have HA := Lib.hid (fit_sp h1).el
      have HB := Lib.hid (fit_sp h2).el
      have hla : a.length ≤ 64 ∧ 64 ≤ a.length := by have := sp_len h1; omega
      have hlb : b.length ≤ 64 ∧ 64 ≤ b.length := by have := sp_len h2; omega
      obtain ⟨i0, hi0, hz0, hz1, hz2⟩ := info_int64
      obtain ⟨b1, off1, rfl, hlw1, hc1⟩ := hx.at2 (show 0 < a.length by omega)
      obtain ⟨b2, off2, rfl, hlw2, hc2⟩ := hy.at2 (show 0 < b.length by omega)
      have bx0 := HA.out 0 (by omega)
      have by0 := HB.out 0 (by omega)
      have HN0 := Lib.hid (show a.getD 0 0 * b.getD 0 0 % 7681 = prdF a b 0 from rfl)
      have fm0 := mulZ bx0 by0
      generalize a.getD 0 0 = X0 at *
      generalize b.getD 0 0 = Y0 at *
      obtain ⟨Z0, hZ0⟩ : ∃ Z, Z = X0 * Y0 := ⟨_, rfl⟩
      have hw0 : IntKind.i64.wrap (X0 * Y0) = Z0 := by rw [IntWalk.i64_in _ (by omega), hZ0]
      rw [← hZ0] at HN0 fm0
      clear hZ0
      have ht0 : Z0.tmod 7681 = Z0 % 7681 := Int.tmod_eq_emod_of_nonneg fm0.1
      have HT0 := Lib.hid ht0
      clear ht0
      rw [Nat.add_zero] at hc1 hc2
      have hp0 : 0 < a.length := by omega
      have hq0 : 0 < b.length := by omega
      have hown0 : ((w.alloc (.cells #[.int .i64 (Z0.tmod 7681)] 2)).drew).ownsRow w.heap.size 2 1 (.slice (some ⟨w.heap.size, 0, none⟩) 1 1) 1 ((fullL (prdF a b) 1).flatMap (encI .i64)) := by
        have h := own_blk (size := 1) (n := 1) (Blk.new w 2 #[.int .i64 (Z0.tmod 7681)]) (Nat.le_refl _) (by simp) (by unfold maxLen; omega)
        have e : (fullL (prdF a b) 1).flatMap (encI .i64) = [.int .i64 (Z0.tmod 7681)] := by
          rw [fullL_succ, fullL_zero, ← HN0.out, HT0.out]
          rfl
        rw [e]
        exact World.ownsRow.drew (by simpa using h)
      go_enter Try.func13, Try.ntmps13
      go_wp2_with fail
      refine (refValid_any _ _ _ _ hx hl).mono ?_
      rintro _ _ ⟨rfl, rfl⟩
      rw [h1]
      go_wp2_with fail
      refine (refValid_any _ _ _ _ hy hl2).mono ?_
      rintro _ _ ⟨rfl, rfl⟩
      rw [h2]
      have H1 := Lib.hid h1
      have H2 := Lib.hid h2
      clear h1 h2
      go_wp2
      go_region_held3 (fun w' => w'.cell? ⟨b1, off1, none⟩ = some (.int .i64 X0) ∧ w'.cell? ⟨b2, off2, none⟩ = some (.int .i64 Y0)) (go_keep) (fail)
      clear hc1 hc2 hw0 HN0 HT0 bx0 by0 fm0
      go_wp2
      go_loopg [6, 7] 63 (fun gk v i wr => ∃ k : Nat, k + gk = 64 ∧ 1 ≤ k ∧ i = .int .i64 k ∧ wr.ownsRow w.heap.size 2 1 v k ((fullL (prdF a b) k).flatMap (encI .i64)) ∧ Below w.heap.size w wr)
      case atStart => exact ⟨1, by omega, by omega, rfl, hown0, (balloc (Below.refl _ _) _).drew⟩
      case round =>
        clear hown0 HR
        obtain ⟨k, hk, hk1, rfl, hO, hb⟩ := hrel
        have hk' : k ≤ 64 := by omega
        have HK := Lib.hid hk
        clear hk
        have hsz := hb.size
        obtain ⟨A8, c8, rfl, hc8⟩ := own_shape' hO
        by_cases hlt : k < 64
        · have hlb' : k < b.length := by omega
          have hm' : 64 - k < a.length := by omega
          obtain ⟨b3, off3, e3, hlw3, hc3⟩ := hx.at2 hm'
          obtain ⟨b4, off4, e4, hlw4, hc4⟩ := hy.at2 hlb'
          obtain ⟨rfl, rfl⟩ : b1 = b3 ∧ off1 = off3 := by injection e3 with e3; injection e3 with e5 e6; exact ⟨e5, e6⟩
          obtain ⟨rfl, rfl⟩ : b2 = b4 ∧ off2 = off4 := by injection e4 with e4; injection e4 with e5 e6; exact ⟨e5, e6⟩
          clear e3 e4
          have bx := HA.out _ hm'
          have by' := HB.out k hlb'
          have HN := Lib.hid (show a.getD (64 - k) 0 * b.getD k 0 % 7681 = prdF a b k by unfold prdF; rw [Nat.mod_eq_of_lt (show 64 - k < 64 by omega)])
          obtain ⟨D, hD⟩ : ∃ D, D = 64 - k := ⟨_, rfl⟩
          have g1 : IntKind.i64.wrap (64 - (k : Int)) = (D : Int) := by rw [IntWalk.i64_in _ (by omega)]; omega
          rw [← hD] at bx HN hc3 hm'
          have g4 : (D : Int) < a.length := by omega
          clear hD
          have fm := mulZ bx by'
          generalize a.getD D 0 = X at *
          generalize b.getD k 0 = Y at *
          obtain ⟨Z, hZ⟩ : ∃ Z, Z = X * Y := ⟨_, rfl⟩
          have hw2 : IntKind.i64.wrap (X * Y) = Z := by rw [IntWalk.i64_in _ (by omega), hZ]
          rw [← hZ] at HN fm
          clear hZ
          have HN2 := Lib.hid (show Z.tmod 7681 = prdF a b k by rw [Int.tmod_eq_emod_of_nonneg fm.1]; exact HN.out)
          have hcA : wr.cell? ⟨b1, off1 + D, none⟩ = some (.int .i64 X) := (hb.cell (p := ⟨b1, off1 + D, none⟩) hlw1).trans hc3
          have hcB : wr.cell? ⟨b2, off2 + k, none⟩ = some (.int .i64 Y) := (hb.cell (p := ⟨b2, off2 + k, none⟩) hlw2).trans hc4
          go_wp2
          go_region_held3 (fun w' => w'.cell? ⟨b1, off1 + D, none⟩ = some (.int .i64 X) ∧ w'.cell? ⟨b2, off2 + k, none⟩ = some (.int .i64 Y))
            (first | go_keep | exact ⟨hcA, hcB⟩ | exact ⟨(hB4.cell (p := ⟨b1, off1 + D, none⟩) hlw1).trans hc3, (hB4.cell (p := ⟨b2, off2 + k, none⟩) hlw2).trans hc4⟩ | fail)
            ((refine step_append_lies _ (by rfl) (.tmp 29) (.tmp 41) _ (by rfl) w.heap.size 2 i0 _ 1 8 Try.underlying23 hi0 hz0 hz1 hz2 rfl (by omega) _ k _ (by rfl) (World.ownsRow.drew (hO.alloc (.cells #[.int .i64 (Z.tmod 7681)] 2))) ⟨wr.heap.size, 0, none⟩ 1 1 (encI .i64 (Z.tmod 7681)) (by rfl) (by rfl) (encI_news wr _ _ _) (encI_one _ _) (by omega) (by unfold maxLen; omega) (by omega) (by simp [World.drew]; omega) (wr.heap.size + 1) (by simp [World.drew]) ?_; intro g4 c4 w4 hown4 hgrow4 hat4 hlt4; have hB4 := own_below (balloc hb (.cells #[.int .i64 (Z.tmod 7681)] 2)).drew (World.ownsRow.drew (hO.alloc (.cells #[.int .i64 (Z.tmod 7681)] 2))) hgrow4 (Nat.le_refl _) (by simp [World.drew]; omega)))
          all_goals go_wp2
          all_goals
            go_roundg (gk - 1)
            case rel => exact ⟨k + 1, by have := HK.out; omega, by omega, by go_num, by rw [fullL_succ, flat_snoc, ← HN2.out]; exact hown4, hB4⟩
            case measure => have := HK.out; omega
        · obtain rfl : k = 64 := by omega
          go_wp2
          go_ret2
          exact RetFE.own (prd_ok H1.out H2.out) (prdL_len _ _) (own_RI_at (fullL_len _ _) hO) hb
end Crs
end Go.Proofs.Ytcpmpfnickhojaa
