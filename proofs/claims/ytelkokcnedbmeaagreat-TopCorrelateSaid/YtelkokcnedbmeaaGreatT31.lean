/-
  Parts of the proof of TopCorrelate: CrA CrC.
-/
import Derived.Test.YtelkokcnedbmeaaGreatT29
import Derived.Test.YtelkokcnedbmeaaGreatT03
import Derived.Test.YtelkokcnedbmeaaGreatT15
import Derived.Test.YtelkokcnedbmeaaGreatT30
import Derived.Deep.AppendLies
import Derived.Deep.RegionHeld3
namespace Go.Proofs.YtelkokcnedbmeaaGreat
open Go.RowKit Num Dft
set_option maxRecDepth 20000
set_option linter.unusedVariables false
set_option linter.unusedSimpArgs false
namespace Crs
theorem info_int : (Tryz.prog.info? 3).map (fun i => (i.zero, i.size, i.bytes)) = some (some (.int .i64 0), 1, 8) := by kernel_rfl
theorem pr_tr {n F : Nat} (h : 2 ≤ n) (hf : ∀ d, d ≤ F → 2 ≤ d → ¬ d ∣ n) (hn : n < (F + 1) * (F + 1)) : Pr n := by
 refine pr_trial h (fun d h2 hd => ?_)
 rcases Nat.lt_or_ge F d with h3 | h3
 ·exfalso
  have := Nat.mul_le_mul h3 h3
  have : (F + 1) * (F + 1) ≤ d * d := this
  omega
 ·exact hf d h3 h2
theorem pr_7681 : Pr 7681 := pr_tr (F := 87) (by omega) (by decide +kernel) (by omega)
theorem ok_p : Ok 7681 64 := ⟨pr_7681, by omega, by omega, by omega, by decide⟩
def padL (xs : List Int) : List Int := fullL (fun k => xs.getD k 0) 64
noncomputable def spcL (xs : List Int) : List Int := fwdL 7681 (resL 7681 64 (fun k => xs.getD k 0))
noncomputable def spcS (xs : List Int) : List Int × Int := if streamErr xs ≠ 0 then ([], streamErr xs) else if 32 < xs.length then ([], 4) else (spcL xs, 0)
def isSpB (a : List Int) : Bool := decide (a.length = 64 ∧ ∀ j, j < a.length → 0 ≤ a.getD j 0 ∧ a.getD j 0 < 7681)
def prdF (a b : List Int) (k : Nat) : Int := a.getD ((64 - k) % 64) 0 * b.getD k 0 % 7681
def prdL (a b : List Int) : List Int := fullL (prdF a b) 64
def prdS (a b : List Int) : List Int × Int := if isSpB a = true then (if isSpB b = true then (prdL a b, 0) else ([], 8)) else ([], 8)
noncomputable def vlF (a : List Int) (k : Nat) : Int := sgF 7681 (bkL 7681 a) k
noncomputable def vlL (a : List Int) : List Int := fullL (vlF a) 64
noncomputable def vlS (a : List Int) : List Int × Int := if isSpB a = true then (vlL a, 0) else ([], 8)
theorem spcS_err {xs : List Int} (h : ¬ streamErr xs = 0) : spcS xs = ([], streamErr xs) := by simp [spcS, h]
theorem spcS_many {xs : List Int} (h : streamErr xs = 0) (h2 : 32 < xs.length) : spcS xs = ([], 4) := by simp [spcS, h, h2]
theorem spcS_ok {xs : List Int} (h : streamErr xs = 0) (h2 : xs.length ≤ 32) : spcS xs = (spcL xs, 0) := by
 have : ¬ 32 < xs.length := by omega
 simp [spcS, h, this]
theorem spcL_len (xs : List Int) : (spcL xs).length = 64 := by unfold spcL; rw [fwdL_len, resL_len]
theorem prdL_len (a b : List Int) : (prdL a b).length = 64 := fullL_len _ _
theorem vlL_len (a : List Int) : (vlL a).length = 64 := fullL_len _ _
theorem sp_len {a : List Int} (h : isSpB a = true) : a.length = 64 := (of_decide_eq_true h).1
theorem fit_sp {a : List Int} (h : isSpB a = true) : Fit 7681 a := by
 obtain ⟨h1, h2⟩ := of_decide_eq_true h
 exact fit_len (fit_res ok_p (fun _ => 0)) (by rw [resL_len]; exact h1) h2
theorem sp_fit {a : List Int} (h : Fit 7681 a) (hl : a.length = 64) : isSpB a = true := decide_eq_true ⟨hl, h.el⟩
theorem sp_spc (xs : List Int) : isSpB (spcL xs) = true := sp_fit (fit_fwd (fit_res ok_p _)) (spcL_len xs)
theorem sp_chk {a : List Int} (h : a.length = 64) : (chkL 7681 a = 0 ∧ isSpB a = true) ∨ (¬ chkL 7681 a = 0 ∧ isSpB a = false) := by
 rcases chkL_cases 7681 a with ⟨e0, P, hP, hF⟩ | e0
 ·obtain rfl : P = 7681 := by omega
  exact .inl ⟨e0, sp_fit hF h⟩
 ·refine .inr ⟨e0, ?_⟩
  rw [Bool.eq_false_iff]
  intro h2
  exact e0 (chkL_ok (fit_sp h2))
theorem chk_sp {l : List Int} (h : Fit 7681 l) : chkL 7681 l = 0 := chkL_ok h
theorem fwd_sp {l : List Int} (h : Fit 7681 l) : fwdS 7681 l = (fwdL 7681 l, 0) := by
 unfold fwdS; rw [if_pos (chk_sp h)]; rfl
theorem bk_sp {l : List Int} (h : Fit 7681 l) : bkS 7681 l = (bkL 7681 l, 0) := by
 unfold bkS; rw [if_pos (chk_sp h)]; rfl
theorem sg_sp {l : List Int} (h : Fit 7681 l) : sgS 7681 l = (fullL (sgF 7681 l) l.length, 0) := by
 unfold sgS; rw [if_pos (chk_sp h)]; rfl
theorem rd_pad {xs : List Int} (h : ∀ i, -3 ≤ xs.getD i 0 ∧ xs.getD i 0 ≤ 3) : rdS 7681 (padL xs) = (resL 7681 64 (fun k => xs.getD k 0), 0) := by
 have hl : (padL xs).length = 64 := fullL_len _ _
 have hok : okP 7681 = true := okP_iff.2 ⟨7681, rfl, by omega, by omega, pr_7681⟩
 unfold rdS
 rw [if_pos hok, if_neg (by rw [hl]; omega), any2_false (fun j hj => ?_), if_neg (by simp), hl]
 ·refine congrArg (fun l => (l, (0 : Int))) (fullL_congr fun k hk => ?_)
  unfold rdF padL
  rw [fullL_getD _ _ _ _ hk]
  rfl
 ·rw [hl] at hj
  unfold padL
  rw [fullL_getD _ _ _ _ hj]
  have := h j
  omega
theorem strm_bd {xs : List Int} (h : streamErr xs = 0) (i : Nat) : -3 ≤ xs.getD i 0 ∧ xs.getD i 0 ≤ 3 := by
 rcases Lagw.stream_at h i with e | e | e | e | e <;> rw [e] <;> omega
theorem part_pad {xs : List Int} (h : xs.length ≤ 64) : partL (fun k => xs.getD k 0) 0 64 xs.length = padL xs := by
 refine list_ext_getD (d := 0) (by rw [partL_len]; exact (fullL_len _ _).symm) (fun j hj => ?_)
 rw [partL_len] at hj
 unfold padL
 rw [fullL_getD _ _ _ _ hj, getD_lt _ _ (by rw [partL_len]; exact hj)]
 simp only [partL, List.getElem_map, List.getElem_range]
 split
 ·rfl
 ·rename_i h1
  exact (getD_out (by omega)).symm
theorem fwd_w (l r : List Int) (n m : Nat) (hn : l.length = n) (hm : r.length = m) (h : fwdS 7681 l = (r, 0)) (A : Option Addr) (c : Nat) (w : World) (hx : RI .i64 w A l) (hl : n ≤ 1000) :
 Calls Tryz.prog 101 #[.int .i64 7681, .slice A n c] w fun e w' => ∃ A c, e = .returned (.tuple #[.slice A m c, .int .i64 0]) ∧ Lol.RIo .i64 w.heap.size w' A r ∧ m ≤ c ∧ Below w.heap.size w w' := by
 subst hn; subst hm
 have := fwdN_any 7681 A c l w hx (by omega) (by omega) (by omega)
 rw [h] at this
 exact this
theorem bk_w (l r : List Int) (n m : Nat) (hn : l.length = n) (hm : r.length = m) (h : bkS 7681 l = (r, 0)) (A : Option Addr) (c : Nat) (w : World) (hx : RI .i64 w A l) (hl : n ≤ 1000) :
 Calls Tryz.prog 85 #[.int .i64 7681, .slice A n c] w fun e w' => ∃ A c, e = .returned (.tuple #[.slice A m c, .int .i64 0]) ∧ RI .i64 w' A r ∧ Below w.heap.size w w' := by
 subst hn; subst hm
 have := back_any 7681 A c l w hx (by omega) (by omega) (by omega)
 rw [h] at this
 exact this
theorem sg_w (l r : List Int) (n m : Nat) (hn : l.length = n) (hm : r.length = m) (h : sgS 7681 l = (r, 0)) (A : Option Addr) (c : Nat) (w : World) (hx : RI .i64 w A l) (hl : n ≤ 1000) :
 Calls Tryz.prog 86 #[.int .i64 7681, .slice A n c] w fun e w' => ∃ A c, e = .returned (.tuple #[.slice A m c, .int .i64 0]) ∧ Lol.RIo .i64 w.heap.size w' A r ∧ m ≤ c ∧ Below w.heap.size w w' := by
 subst hn; subst hm
 have := signedN_any 7681 A c l w hx (by omega) (by omega) (by omega)
 rw [h] at this
 exact this
theorem rd_w (l r : List Int) (n m : Nat) (hn : l.length = n) (hm : r.length = m) (h : rdS 7681 l = (r, 0)) (A : Option Addr) (c : Nat) (w : World) (hx : RI .i64 w A l) (hl : n ≤ 1000) :
 Calls Tryz.prog 100 #[.int .i64 7681, .slice A n c] w fun e w' => ∃ A c, e = .returned (.tuple #[.slice A m c, .int .i64 0]) ∧ RI .i64 w' A r ∧ Below w.heap.size w w' := by
 subst hn; subst hm
 have := reduce_any 7681 A c l w hx (by omega) (by omega) (by omega)
 rw [h] at this
 exact this
theorem mk64 (w : World) : (Instr.makeSlice 62 (.int .i64 64) (.int .i64 64)).run Tryz.prog w = .ok (.slice (some ⟨w.heap.size, 0, none⟩) 64 64) (w.alloc (.cells ((List.replicate 64 (0 : Int)).flatMap (encI .i64)).toArray 2)) := by
 obtain ⟨i0, hi0, hz0, hz1, hz2⟩ := info_int64
 exact mk_row (P := Tryz.prog) 62 2 Tryz.underlying62 hi0 hz0 hz1 hz2 (encI .i64) (encI_len .i64) (by omega) 0 rfl 64 (by omega) (by omega) w
theorem isSp_any (A : Option Addr) (c : Nat) (a : List Int) (w : World) (hx : RI .i64 w A a) (hl : a.length ≤ 9223372036854775807) :
 Calls Tryz.prog 84 #[.slice A a.length c] w fun e w' => e = .returned (.bool (isSpB a)) ∧ Below w.heap.size w w' := by
 by_cases h : a.length = 64
 ·have d1 : ((a.length : Int) == 64) = true := by rw [beq_iff_eq]; omega
  have HK := fun w hx => chkF_any 7681 A c a w hx hl (by omega) (by omega)
  rcases sp_chk h with ⟨e0, e1⟩ | ⟨e0, e1⟩
  ·rw [e0] at HK
   have HE := Lib.hid e1
   clear e0 e1 h
   go_enter Tryz.func84, Tryz.ntmps84
   go_wp2_with fail
   refine (HK _ hx).mono ?_
   rintro _ w1 ⟨rfl, hb1⟩
   go_wp2
   go_ret
   exact ⟨ret_bool HE.out.symm, hb1⟩
  ·have HE := Lib.hid e1
   have d2 : (chkL 7681 a == 0) = false := by rw [beq_eq_false_iff_ne]; exact e0
   clear e0 e1 h
   go_enter Tryz.func84, Tryz.ntmps84
   go_wp2_with fail
   refine (HK _ hx).mono ?_
   rintro _ w1 ⟨rfl, hb1⟩
   go_wp2
   go_ret
   exact ⟨ret_bool HE.out.symm, hb1⟩
 ·have d1 : ((a.length : Int) == 64) = false := by rw [beq_eq_false_iff_ne]; omega
  have HE : Hid (isSpB a = false) := Lib.hid (decide_eq_false fun h2 => h h2.1)
  clear h
  go_enter Tryz.func84, Tryz.ntmps84
  go_wp2
  go_ret
  exact ⟨ret_bool HE.out.symm, Below.refl _ _⟩
set_option maxHeartbeats 1000000 in
theorem spectrum_any (A : Option Addr) (c : Nat) (xs : List Int) (w : World) (hx : RI .i64 w A xs) (hl : xs.length ≤ 140737488355328) :
 Calls Tryz.prog 82 #[.slice A xs.length c] w (RetN w (spcS xs)) := by
 rcases (Decidable.em (streamErr xs = 0)).symm with he | he
 ·have e1 : (streamErr xs != 0) = true := by simp [he]
  have HR := Lib.hid (spcS_err he)
  clear he
  go_enter Tryz.func82, Tryz.ntmps82
  go_wp2_with fail
  refine (sampleCheck_any _ _ _ _ hx hl).mono ?_
  rintro _ _ ⟨rfl, rfl⟩
  go_wp2
  go_ret2
  exact RetN.no HR.out (Below.refl _ _)
 have e1 : (streamErr xs != 0) = false := by simp [he]
 by_cases h32 : 32 < xs.length
 ·have HR := Lib.hid (spcS_many he h32)
  have d1 : decide (32 < xs.length) = true := decide_eq_true h32
  clear he
  go_enter Tryz.func82, Tryz.ntmps82
  go_wp2_with fail
  refine (sampleCheck_any _ _ _ _ hx hl).mono ?_
  rintro _ _ ⟨rfl, rfl⟩
  go_wp2
  go_ret2
  exact RetN.no HR.out (Below.refl _ _)
 have d1 : decide (32 < xs.length) = false := decide_eq_false h32
 have HR := Lib.hid (spcS_ok he (by omega))
 have HP := Lib.hid (part_pad (xs := xs) (by omega))
 have H1 := fun A c w hx => rd_w (padL xs) _ 64 64 (fullL_len _ _) (resL_len _ _ _) (rd_pad (strm_bd he)) A c w hx (by omega)
 have H2 := fun A c w hx => fwd_w (resL 7681 64 (fun k => xs.getD k 0)) (spcL xs) 64 64 (resL_len _ _ _) (spcL_len _) (fwd_sp (fit_res ok_p _)) A c w hx (by omega)
 clear he
 generalize resL 7681 64 (fun k => xs.getD k 0) = rs at *
 obtain ⟨i0, hi0, hz0, hz1, hz2⟩ := info_int64
 have hmk := mk64
 go_enter Tryz.func82, Tryz.ntmps82
 go_wp2_with fail
 refine (sampleCheck_any _ _ _ _ hx hl).mono ?_
 rintro _ _ ⟨rfl, rfl⟩
 go_wp2
 go_loopg [21] xs.length (fun gk i wr => ∃ k : Nat, k + gk = xs.length ∧ i = .int .i64 k ∧ Blk wr w.heap.size 2 ((partL (fun k => xs.getD k 0) 0 64 k).flatMap (encI .i64)).toArray ∧ Below w.heap.size w wr)
 case atStart => exact ⟨0, by omega, rfl, by rw [partL_start]; exact Blk.new w 2 _, balloc (Below.refl _ _) _⟩
 case round =>
  obtain ⟨k, hk, rfl, hO, hb⟩ := hrel
  have hk' : k ≤ xs.length := by omega
  have HK := Lib.hid hk
  clear hk hmk
  by_cases hlt : k < xs.length
  ·obtain ⟨b1, off1, rfl, hlw1, hc1⟩ := (hx.keep hb).at2 hlt
   have o0 := blkI_at hO (j := k) (by rw [partL_len]; omega)
   have of0 := hO.frozen k
   have hgl := hO.lt
   have HM := Lib.hid (partL_set (fun k => xs.getD k 0) 0 64 k (xs.getD k 0) rfl)
   generalize xs.getD k 0 = X at *
   go_wp2
   go_roundg (gk - 1)
   case rel => exact ⟨k + 1, by have := HK.out; omega, by go_num, by rw [← HM.out]; exact blkI_set hO (by rw [partL_len]; omega) _, hb.setCell (p := ⟨w.heap.size, k, none⟩) (Nat.le_refl _) _⟩
   case measure => have := HK.out; omega
  ·obtain rfl : k = xs.length := by omega
   rw [HP.out] at hO
   have r1 : RI .i64 wr (some ⟨w.heap.size, 0, none⟩) (padL xs) := blk_RI hO
   clear HP hk' HK hO
   go_wp2_with fail
   refine (H1 _ _ _ r1).mono ?_
   rintro _ w2 ⟨A2, c2, rfl, r2, hb2⟩
   have hB2 := bstep hb hb2
   go_wp2_with fail
   refine (H2 _ _ _ r2).mono ?_
   rintro _ w3 ⟨A3, c3, rfl, r3, hc3, hb3⟩
   go_wp2
   go_ret2
   exact RetN.row HR.out (spcL_len _) (r3.mono hB2.size) hc3 (bstep hB2 hb3)
theorem prd_no1 {a b : List Int} (h : isSpB a = false) : prdS a b = ([], 8) := by simp [prdS, h]
theorem prd_no2 {a b : List Int} (h : isSpB a = true) (h2 : isSpB b = false) : prdS a b = ([], 8) := by simp [prdS, h, h2]
theorem prd_ok {a b : List Int} (h : isSpB a = true) (h2 : isSpB b = true) : prdS a b = (prdL a b, 0) := by simp [prdS, h, h2]
theorem vl_no {a : List Int} (h : isSpB a = false) : vlS a = ([], 8) := by simp [vlS, h]
theorem vl_ok {a : List Int} (h : isSpB a = true) : vlS a = (vlL a, 0) := by simp [vlS, h]
theorem mulZ {X Y : Int} (hx : 0 ≤ X ∧ X < 7681) (hy : 0 ≤ Y ∧ Y < 7681) : 0 ≤ X * Y ∧ X * Y ≤ 58982400 := by
 have h1 := Int.mul_nonneg hx.1 hy.1
 have h2 : X * Y ≤ 7680 * 7680 := Int.mul_le_mul (by omega) (by omega) hy.1 (by omega)
 omega
set_option maxHeartbeats 1000000 in
theorem product_any (A B : Option Addr) (c d : Nat) (a b : List Int) (w : World) (hx : RI .i64 w A a) (hy : RI .i64 w B b) (hl : a.length ≤ 9223372036854775807) (hl2 : b.length ≤ 9223372036854775807) :
 Calls Tryz.prog 83 #[.slice A a.length c, .slice B b.length d] w (RetN w (prdS a b)) := by
 cases h1 : isSpB a with
 | false =>
  have HR := Lib.hid (prd_no1 (b := b) h1)
  go_enter Tryz.func83, Tryz.ntmps83
  go_wp2_with fail
  refine (isSp_any _ _ _ _ hx hl).mono ?_
  rintro _ w1 ⟨rfl, hb1⟩
  rw [h1]
  go_wp2
  go_ret2
  exact RetN.no HR.out hb1
 | true =>
  cases h2 : isSpB b with
  | false =>
   have HR := Lib.hid (prd_no2 h1 h2)
   go_enter Tryz.func83, Tryz.ntmps83
   go_wp2_with fail
   refine (isSp_any _ _ _ _ hx hl).mono ?_
   rintro _ w1 ⟨rfl, hb1⟩
   rw [h1]
   go_wp2_with fail
   refine (isSp_any _ _ _ _ (hy.keep hb1) hl2).mono ?_
   rintro _ w2 ⟨rfl, hb2⟩
   rw [h2]
   go_wp2
   go_ret2
   exact RetN.no HR.out (bstep hb1 hb2)
  | true =>
   have HR := Lib.hid (prd_ok h1 h2)
   have HA := Lib.hid (fit_sp h1).el
   have HB := Lib.hid (fit_sp h2).el
   have hla : a.length ≤ 64 ∧ 64 ≤ a.length := by have := sp_len h1; omega
   have hlb : b.length ≤ 64 ∧ 64 ≤ b.length := by have := sp_len h2; omega
   obtain ⟨i0, hi0, hz0, hz1, hz2⟩ := info_int64
   have hmk := mk64
   go_enter Tryz.func83, Tryz.ntmps83
   go_wp2_with fail
   refine (isSp_any _ _ _ _ hx hl).mono ?_
   rintro _ w1 ⟨rfl, hb1⟩
   rw [h1]
   go_wp2_with fail
   refine (isSp_any _ _ _ _ (hy.keep hb1) hl2).mono ?_
   rintro _ w2 ⟨rfl, hb2⟩
   rw [h2]
   have hB2 := bstep hb1 hb2
   clear hb1 hb2 h1 h2
   go_wp2
   go_loopg [19] 64 (fun gk i wr => ∃ k : Nat, k + gk = 64 ∧ i = .int .i64 k ∧ Blk wr w2.heap.size 2 ((partL (prdF a b) 0 64 k).flatMap (encI .i64)).toArray ∧ Below w2.heap.size w2 wr)
   case atStart => exact ⟨0, by omega, rfl, by rw [partL_start]; exact Blk.new w2 2 _, balloc (Below.refl _ _) _⟩
   case round =>
    obtain ⟨k, hk, rfl, hO, hb⟩ := hrel
    have hk' : k ≤ 64 := by omega
    have HK := Lib.hid hk
    clear hk hmk
    by_cases hlt : k < 64
    ·have hlb' : k < b.length := by omega
     have hm : (64 - k) % 64 < 64 := Nat.mod_lt _ (by omega)
     have hm' : (64 - k) % 64 < a.length := by omega
     obtain ⟨b1, off1, rfl, hlw1, hc1⟩ := ((hx.keep hB2).keep hb).at2 hm'
     obtain ⟨b2, off2, rfl, hlw2, hc2⟩ := ((hy.keep hB2).keep hb).at2 hlb'
     have bx := HA.out _ hm'
     have by' := HB.out k hlb'
     have o0 := blkI_at hO (j := k) (by rw [partL_len]; exact hlt)
     have of0 := hO.frozen k
     have hgl := hO.lt
     have HN := Lib.hid (show a.getD ((64 - k) % 64) 0 * b.getD k 0 % 7681 = prdF a b k from rfl)
     have g1 : IntKind.i64.wrap (64 - (k : Int)) = 64 - (k : Int) := IntWalk.i64_in _ (by omega)
     have g2 : (64 - (k : Int)) % 64 = (((64 - k) % 64 : Nat) : Int) := by omega
     have g3 : (64 - (k : Int)).tmod 64 = (((64 - k) % 64 : Nat) : Int) := by rw [Int.tmod_eq_emod_of_nonneg (by omega)]; exact g2
     generalize (64 - k) % 64 = m at *
     have fm := mulZ bx by'
     generalize a.getD m 0 = X at *
     generalize b.getD k 0 = Y at *
     obtain ⟨Z, hZ⟩ : ∃ Z, Z = X * Y := ⟨_, rfl⟩
     have hw2 : IntKind.i64.wrap (X * Y) = Z := by rw [IntWalk.i64_in _ (by omega), hZ]
     rw [← hZ] at HN fm
     clear hZ
     have HM := Lib.hid (partL_set (prdF a b) 0 64 k (Z % 7681) HN.out)
     go_wp2
     all_goals go_region
     all_goals go_wp2
     all_goals
      go_roundg (gk - 1)
      case rel => exact ⟨k + 1, by have := HK.out; omega, by go_num, by rw [← HM.out]; exact (blkI_set hO (by rw [partL_len]; exact hlt) _).drew, (hb.setCell (p := ⟨w2.heap.size, k, none⟩) (Nat.le_refl _) _).drew⟩
      case measure => have := HK.out; omega
    ·rw [partL_end _ _ _ _ (by omega)] at hO
     go_wp2
     go_ret2
     exact RetN.blk HR.out (prdL_len _ _) hB2.size hO (bstep hB2 hb)
theorem values_any (A : Option Addr) (c : Nat) (a : List Int) (w : World) (hx : RI .i64 w A a) (hl : a.length ≤ 9223372036854775807) :
 Calls Tryz.prog 51 #[.slice A a.length c] w (RetN w (vlS a)) := by
 cases h1 : isSpB a with
 | false =>
  have HR := Lib.hid (vl_no h1)
  go_enter Tryz.func51, Tryz.ntmps51
  go_wp2_with fail
  refine (isSp_any _ _ _ _ hx hl).mono ?_
  rintro _ w1 ⟨rfl, hb1⟩
  rw [h1]
  go_wp2
  go_ret2
  exact RetN.no HR.out hb1
 | true =>
  have HR := Lib.hid (vl_ok h1)
  have hF := fit_sp h1
  have hlen := sp_len h1
  have hbl : (bkL 7681 a).length = 64 := by unfold bkL; rw [fullL_len]; exact hlen
  have H1 := fun A c w hx => bk_w a (bkL 7681 a) a.length 64 rfl hbl (bk_sp hF) A c w hx (by omega)
  have H2 := fun A c w hx => sg_w (bkL 7681 a) (vlL a) 64 64 hbl (vlL_len a) (by rw [sg_sp (fit_bk hF), hbl]; rfl) A c w hx (by omega)
  clear hF hlen hbl
  generalize bkL 7681 a = bs at *
  go_enter Tryz.func51, Tryz.ntmps51
  go_wp2_with fail
  refine (isSp_any _ _ _ _ hx hl).mono ?_
  rintro _ w1 ⟨rfl, hb1⟩
  rw [h1]
  go_wp2_with fail
  refine (H1 _ _ _ (hx.keep hb1)).mono ?_
  rintro _ w2 ⟨A2, c2, rfl, r2, hb2⟩
  have hB2 := bstep hb1 hb2
  go_wp2_with fail
  refine (H2 _ _ _ r2).mono ?_
  rintro _ w3 ⟨A3, c3, rfl, r3, hc3, hb3⟩
  go_wp2
  go_ret2
  exact RetN.row HR.out (vlL_len _) (r3.mono hB2.size) hc3 (bstep hB2 hb3)
def nzF (xs : List Int) (k : Nat) : Int := if xs.getD k 0 = 0 then 0 else 1
def nzL (xs : List Int) : List Int := fullL (nzF xs) xs.length
theorem partL_skip {f : Nat → Int} {n k : Nat} (h : f k = 0) : partL f 0 n k = partL f 0 n (k + 1) := by
 refine list_ext_getD (d := 0) (by rw [partL_len, partL_len]) (fun j hj => ?_)
 rw [partL_len] at hj
 rw [getD_lt _ _ (by rw [partL_len]; exact hj), getD_lt _ _ (by rw [partL_len]; exact hj)]
 simp only [partL, List.getElem_map, List.getElem_range]
 by_cases h1 : j < k
 ·rw [if_pos h1, if_pos (by omega)]
 ·rw [if_neg h1]
  by_cases h2 : j < k + 1
  ·obtain rfl : j = k := by omega
   rw [if_pos h2, h]
  ·rw [if_neg h2]
theorem ones_any (A : Option Addr) (c : Nat) (xs : List Int) (w : World) (hx : RI .i64 w A xs) (hl : xs.length ≤ 1000) :
 Calls Tryz.prog 25 #[.slice A xs.length c] w fun e w' => ∃ A c, e = .returned (.slice A xs.length c) ∧ RI .i64 w' A (nzL xs) ∧ xs.length ≤ c ∧ Below w.heap.size w w' := by
 obtain ⟨i0, hi0, hz0, hz1, hz2⟩ := info_parts info_int
 have hmk := mk_row (P := Tryz.prog) 22 3 Tryz.underlying22 hi0 hz0 hz1 hz2 (encI .i64) (encI_len .i64) (by omega) 0 rfl xs.length (by omega) (by omega)
 go_enter Tryz.func25, Tryz.ntmps25
 go_wp2
 go_loopg [11] xs.length (fun gk i wr => ∃ k : Nat, k + gk = xs.length ∧ i = .int .i64 k ∧ Blk wr w.heap.size 3 ((partL (nzF xs) 0 xs.length k).flatMap (encI .i64)).toArray ∧ Below w.heap.size w wr)
 case atStart => exact ⟨0, by omega, rfl, by rw [partL_start]; exact Blk.new w 3 _, balloc (Below.refl _ _) _⟩
 case round =>
  obtain ⟨k, hk, rfl, hO, hb⟩ := hrel
  have hk' : k ≤ xs.length := by omega
  have HK := Lib.hid hk
  clear hk hmk
  by_cases hlt : k < xs.length
  ·obtain ⟨b1, off1, rfl, hlw1, hc1⟩ := (hx.keep hb).at2 hlt
   have o0 := blkI_at hO (j := k) (by rw [partL_len]; exact hlt)
   have of0 := hO.frozen k
   have hgl := hO.lt
   have HN := Lib.hid (show nzF xs k = if xs.getD k 0 = 0 then 0 else 1 from rfl)
   generalize xs.getD k 0 = X at *
   by_cases h0 : X = 0
   ·have e1 : (X != 0) = false := by simp [h0]
    have HM := Lib.hid (partL_skip (f := nzF xs) (n := xs.length) (k := k) (by rw [HN.out, if_pos h0]))
    clear h0
    go_wp2
    go_roundg (gk - 1)
    case rel => exact ⟨k + 1, by have := HK.out; omega, by go_num, by rw [← HM.out]; exact hO, hb⟩
    case measure => have := HK.out; omega
   ·have e1 : (X != 0) = true := by simp [h0]
    have HM := Lib.hid (partL_set (nzF xs) 0 xs.length k 1 (by rw [HN.out, if_neg h0]))
    clear h0
    go_wp2
    go_roundg (gk - 1)
    case rel => exact ⟨k + 1, by have := HK.out; omega, by go_num, by rw [← HM.out]; exact blkI_set hO (by rw [partL_len]; exact hlt) _, hb.setCell (p := ⟨w.heap.size, k, none⟩) (Nat.le_refl _) _⟩
    case measure => have := HK.out; omega
  ·rw [partL_end _ _ _ _ (by omega)] at hO
   go_wp2
   go_ret
   exact ⟨_, _, rfl, blk_RI hO, Nat.le_refl _, hb⟩
end Crs
end Go.Proofs.YtelkokcnedbmeaaGreat
namespace Go.Proofs.YtelkokcnedbmeaaGreat
open Go.RowKit Num Dft
set_option maxRecDepth 20000
set_option linter.unusedVariables false
set_option linter.unusedSimpArgs false
namespace Crs
open Lol
def pcN (xs : List Int) : Nat := (xs.length + 31) / 32
def pcI (xs : List Int) (i : Nat) : List Int := (xs.drop (32 * i)).take 32
def pcs (xs : List Int) : List (List Int) := fullL (pcI xs) (pcN xs)
def pcS (xs : List Int) : List (List Int) × Int := if streamErr xs ≠ 0 then ([], streamErr xs) else (pcs xs, 0)
theorem pcS_err {xs : List Int} (h : ¬ streamErr xs = 0) : pcS xs = ([], streamErr xs) := by simp [pcS, h]
theorem pcS_ok {xs : List Int} (h : streamErr xs = 0) : pcS xs = (pcs xs, 0) := by simp [pcS, h]
theorem pcs_len (xs : List Int) : (pcs xs).length = pcN xs := fullL_len _ _
theorem pcI_len (xs : List Int) {i : Nat} (h : 32 * i ≤ xs.length) : (pcI xs i).length = min (32 * i + 32) xs.length - 32 * i := by
 unfold pcI
 rw [List.length_take, List.length_drop]
 omega
theorem own_mono {w : World} {base base' : Nat} {e : TypeId} {s n : Nat} {v : Value} {xs : List Value} (h : w.ownsRow base e s v n xs) (hb : base' ≤ base) : w.ownsRow base' e s v n xs := by
 rcases h.2 with ⟨h1, h2⟩ | ⟨g, cap, cur, h1, h2, h3⟩
 ·exact ⟨h.1, .inl ⟨h1, h2⟩⟩
 ·exact ⟨h.1, .inr ⟨g, cap, cur, h1, by omega, h3⟩⟩
theorem RI_sub {k : IntKind} {w : World} {b off : Nat} {xs : List Int} (h : RI k w (some ⟨b, off, none⟩) xs) (i : Nat) : RI k w (some ⟨b, off + 32 * i, none⟩) (pcI xs i) := by
 intro h0
 have hl : (pcI xs i).length = min 32 (xs.length - 32 * i) := by unfold pcI; rw [List.length_take, List.length_drop]
 obtain ⟨b', off', e, hlt, hc⟩ := h (by omega)
 injection e with e
 injection e with e1 e2
 subst e1; subst e2
 refine ⟨b, off + 32 * i, rfl, hlt, fun j hj => ?_⟩
 rw [Nat.add_assoc, hc (32 * i + j) (by omega)]
 have e3 : (pcI xs i).getD j 0 = xs.getD (32 * i + j) 0 := by
  have hj2 : j < 32 := by omega
  simp [pcI, List.getD_eq_getElem?_getD, List.getElem?_take, hj2]
 rw [e3]
theorem info_ints : (Tryz.prog.info? 22).map (fun i => (i.zero, i.size, i.bytes)) = some (some (.slice none 0 0), 1, 24) := by kernel_rfl
theorem one_slice {A : Option Addr} {n c : Nat} : ∀ u ∈ [Value.slice A n c], u.oneCell' = true := by simp [Value.oneCell']
theorem pcN_iff (xs : List Int) (k : Nat) : 32 * k < xs.length ↔ k < pcN xs := by unfold pcN; omega
theorem wpList_append_RIn {P : Program} (w : World) {ops : Array Oper} {rest : List Oper} {o : Oper} {a : Act} {Q : Exit → Act → World → Prop} (hgd : o.guard = none) (s x : Operand) (t : TypeId)
 (ho : o.op = .call { callee := .builtin .append, args := #[s, x], argTypes := #[t, t] })
 (base : Nat) (e : TypeId) (i : TypeInfo) (z : Value) (bytes : Nat) (ht : P.underlying t = some (.slice e)) (hi : P.info? e = some i) (hz : i.zero = some z)
 (hsize : i.size = 1) (hby : i.bytes = bytes) (hzs : z.cells.size = 1) (k : IntKind)
 (A : Option Addr) (m c : Nat) (xs : List Int) (hm : xs.length = m) (hs : a.eval s = .slice none 0 0) (hx : a.eval x = .slice A m c) (hr : RI k w A xs)
 (h63 : m ≤ maxLen) (hbytes : m * bytes ≤ 140737488355328) (hbase : base ≤ w.heap.size)
 (h : ∀ A' c' w', m ≤ c' → w'.ownsRow base e 1 (.slice A' m c') m (xs.flatMap (encI k)) → Below w.heap.size w w' → wpList P ops Q rest (a.put o.dst (.slice A' m c')) w') : wpList P ops Q (o :: rest) a w := by
 subst hm
 refine wpList_append_RI w hgd s x t ho w.heap.size e i z bytes ht hi hz hsize hby hzs k (.slice none 0 0) 0 [] hs (World.ownsRow_nil _ _ _ _) A c xs hx hr (by omega) (by rw [Nat.zero_add]; exact hbytes) (Nat.le_refl _) ?_
 intro v' w' h1 h2
 rw [Nat.zero_add, List.nil_append] at h1
 obtain ⟨A', c', rfl, hc⟩ := own_shape' h1
 exact h A' c' w' hc (own_mono h1 hbase) (own_below (Below.refl w.heap.size w) (World.ownsRow_nil w w.heap.size e 1) h2 (Nat.le_refl _) (Nat.le_refl _))
set_option maxHeartbeats 1000000 in
theorem pieces_any (A : Option Addr) (c : Nat) (xs : List Int) (w : World) (hx : RI .i64 w A xs) (hcap : xs.length ≤ c) (hl : xs.length ≤ 140737488355328) :
 Calls Tryz.prog 81 #[.slice A xs.length c] w (RetLL .i64 w (pcS xs)) := by
 rcases (Decidable.em (streamErr xs = 0)).symm with he | he
 ·have e1 : (streamErr xs != 0) = true := by simp [he]
  have HR := Lib.hid (pcS_err he)
  clear he
  go_enter Tryz.func81, Tryz.ntmps81
  go_wp2_with fail
  refine (sampleCheck_any _ _ _ _ hx hl).mono ?_
  rintro _ _ ⟨rfl, rfl⟩
  go_wp2
  go_ret2
  exact RetLL.no HR.out (Below.refl _ _)
 have e1 : (streamErr xs != 0) = false := by simp [he]
 have HR := Lib.hid (pcS_ok he)
 have hl5 := (Lagw.streamErr_zero he).1
 clear he
 obtain ⟨i0, hi0, hz0, hz1, hz2⟩ := info_parts info_int
 obtain ⟨j0, hj0, hy0, hy1, hy2⟩ := info_parts info_ints
 have HN := Lib.hid (pcN_iff xs)
 have hNb : pcN xs ≤ 8 := by unfold pcN; omega
 go_enter Tryz.func81, Tryz.ntmps81
 go_wp2_with fail
 refine (sampleCheck_any _ _ _ _ hx hl).mono ?_
 rintro _ _ ⟨rfl, rfl⟩
 go_wp2
 go_loopg [5, 6] (pcN xs) (fun gk v i wr => ∃ (k : Nat) (raws : List Value), k + gk = pcN xs ∧ i = .int .i64 ((32 * k : Nat) : Int) ∧ wr.ownsRow w.heap.size 22 1 v k raws ∧ Els .i64 w.heap.size wr v.ownBlock raws (fullL (pcI xs) k) ∧ Below w.heap.size w wr)
 case atStart => exact ⟨0, [], by omega, rfl, World.ownsRow_nil _ _ _ _, Els.nil, Below.refl _ _⟩
 case round =>
  obtain ⟨k, raws, hk, rfl, hO, hE, hb⟩ := hrel
  have hk' : k ≤ pcN xs := by omega
  have HK := Lib.hid hk
  clear hk
  have hsz := hb.size
  by_cases hlt : k < pcN xs
  ·have hin := (HN.out k).2 hlt
   have hpl := pcI_len xs (Nat.le_of_lt hin)
   obtain ⟨b1, off1, rfl, hlw1, _⟩ := hx.at2 hin
   have hr := RI_sub (hx.keep hb) k
   obtain ⟨lo, hlo⟩ : ∃ lo, lo = 32 * k := ⟨_, rfl⟩
   rw [← hlo] at hin hpl hr
   have hnx : (lo : Int) + 32 = ((32 * (k + 1) : Nat) : Int) := by omega
   have HNX := Lib.hid hnx
   rw [show ((32 * k : Nat) : Int) = (lo : Int) by rw [hlo]]
   have HS := Lib.hid (fullL_succ (pcI xs) k)
   have hlen : (pcI xs k).length ≤ 32 := by rw [hpl]; omega
   clear hnx hlo
   have hlt2 : lo < xs.length := hin
   obtain ⟨As, cs, rfl, hcs⟩ := own_shape' hO
   by_cases h : (xs.length : Int) < (lo : Int) + 32
   ·have d1 : decide ((xs.length : Int) < (lo : Int) + 32) = true := decide_eq_true h
    rw [Nat.min_eq_right (by omega)] at hpl
    have HPL := Lib.hid hpl
    have hM : xs.length - lo ≤ 32 := by omega
    clear hpl
    go_wp2_with (first
     |(at_builtin; refine wpList_append_RIn wr rfl (.const (.slice none 0 0)) (.tmp 26) 22 rfl wr.heap.size 3 i0 _ 8 Tryz.underlying22 hi0 hz0 hz1 hz2 rfl .i64 (some ⟨b1, off1 + lo, none⟩) (xs.length - lo) (c - lo) (pcI xs k) HPL.out rfl rfl hr (by unfold maxLen; omega) (by omega) (Nat.le_refl _) ?_; intro A2 c2 w2 hc2 hown2 hb2)
     |(at_builtin; refine wpList_append_lies _ rfl (.tmp 18) (.tmp 28) 138 rfl w.heap.size 22 j0 _ 1 24 Tryz.underlying138 hj0 hy0 hy1 hy2 rfl (by decide) _ k _ rfl ((own_keep hO hb2).alloc _) ⟨w2.heap.size, 0, none⟩ 1 1 [.slice A2 (xs.length - lo) c2] rfl rfl (enc_news _ rfl) one_slice (by omega) (by unfold maxLen; omega) (by omega) (by simp; have := hb2.size; omega) (w2.heap.size + 1) (by simp) ?_; intro g4 c4 w4 hown4 hgrow4 hat4 hlt4))
    have hB4 := own_below (balloc (bstep hb hb2) (.cells #[.slice A2 (xs.length - lo) c2] 22)) ((own_keep hO hb2).alloc _) hgrow4 (Nat.le_refl _) (by simp; have := hb2.size; omega)
    have r2 : RIo .i64 wr.heap.size w2 A2 (pcI xs k) := by
     have h1 := hown2
     rw [← HPL.out] at h1
     exact own_RIo h1
    have hne := r2.apart hO (Nat.le_refl _)
    have hE4 := ((hE.keep hb2).keep (balloc (Below.refl _ _) (.cells #[.slice A2 (xs.length - lo) c2] 22))).push ((r2.mono hsz).keep (balloc (Below.refl _ _) (.cells #[.slice A2 (xs.length - lo) c2] 22))) (by rw [HPL.out]; exact hc2) hne hgrow4 hat4 (by simp)
    rw [HPL.out] at hE4
    go_roundg (gk - 1)
    case rel => exact ⟨k + 1, _, by have := HK.out; omega, by rw [HNX.out], hown4, by rw [HS.out]; exact hE4, hB4⟩
    case measure => have := HK.out; omega
   ·have d1 : decide ((xs.length : Int) < (lo : Int) + 32) = false := decide_eq_false h
    rw [Nat.min_eq_left (by omega), Nat.add_sub_cancel_left] at hpl
    have HPL := Lib.hid hpl
    have hM : 32 ≤ 32 := Nat.le_refl _
    have hin2 : (lo : Int) + 32 ≤ c := by omega
    clear hpl
    go_wp2_with (first
     |(at_builtin; refine wpList_append_RIn wr rfl (.const (.slice none 0 0)) (.tmp 26) 22 rfl wr.heap.size 3 i0 _ 8 Tryz.underlying22 hi0 hz0 hz1 hz2 rfl .i64 (some ⟨b1, off1 + lo, none⟩) 32 (c - lo) (pcI xs k) HPL.out rfl (show Value.slice (some ⟨b1, off1 + lo, none⟩) (lo + 32 - lo) (c - lo) = _ by rw [Nat.add_sub_cancel_left]) hr (by unfold maxLen; omega) (by omega) (Nat.le_refl _) ?_; intro A2 c2 w2 hc2 hown2 hb2)
     |(at_builtin; refine wpList_append_lies _ rfl (.tmp 18) (.tmp 28) 138 rfl w.heap.size 22 j0 _ 1 24 Tryz.underlying138 hj0 hy0 hy1 hy2 rfl (by decide) _ k _ rfl ((own_keep hO hb2).alloc _) ⟨w2.heap.size, 0, none⟩ 1 1 [.slice A2 32 c2] rfl rfl (enc_news _ rfl) one_slice (by omega) (by unfold maxLen; omega) (by omega) (by simp; have := hb2.size; omega) (w2.heap.size + 1) (by simp) ?_; intro g4 c4 w4 hown4 hgrow4 hat4 hlt4))
    have hB4 := own_below (balloc (bstep hb hb2) (.cells #[.slice A2 32 c2] 22)) ((own_keep hO hb2).alloc _) hgrow4 (Nat.le_refl _) (by simp; have := hb2.size; omega)
    have r2 : RIo .i64 wr.heap.size w2 A2 (pcI xs k) := by
     have h1 := hown2
     rw [← HPL.out] at h1
     exact own_RIo h1
    have hne := r2.apart hO (Nat.le_refl _)
    have hE4 := ((hE.keep hb2).keep (balloc (Below.refl _ _) (.cells #[.slice A2 32 c2] 22))).push ((r2.mono hsz).keep (balloc (Below.refl _ _) (.cells #[.slice A2 32 c2] 22))) (by rw [HPL.out]; exact hc2) hne hgrow4 hat4 (by simp)
    rw [HPL.out] at hE4
    go_roundg (gk - 1)
    case rel => exact ⟨k + 1, _, by have := HK.out; omega, by rw [HNX.out], hown4, by rw [HS.out]; exact hE4, hB4⟩
    case measure => have := HK.out; omega
  ·obtain rfl : k = pcN xs := by omega
   have hin : ¬ 32 * pcN xs < xs.length := fun h => hlt ((HN.out _).1 h)
   obtain ⟨lo, hlo⟩ : ∃ lo, lo = 32 * pcN xs := ⟨_, rfl⟩
   rw [show ((32 * pcN xs : Nat) : Int) = (lo : Int) by rw [hlo]]
   rw [← hlo] at hin
   clear hlo
   obtain ⟨As, cs, rfl, hcs⟩ := own_shape' hO
   go_wp2
   go_ret2
   exact RetLL.own HR.out (pcs_len _) (own_RLL hO hE) hb
end Crs
end Go.Proofs.YtelkokcnedbmeaaGreat
