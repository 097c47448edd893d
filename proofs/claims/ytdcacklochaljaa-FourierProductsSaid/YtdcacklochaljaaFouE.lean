/-
  Contracts: Forward, Back (the program's and the reference's).
-/
import Derived.Test.YtdcacklochaljaaFouD
namespace Go.Proofs.Ytdcacklochaljaa
open Go.RowKit Num
set_option linter.unusedVariables false

theorem bidx_false (n x : Nat) : bidx n false x = x % n := by
  unfold bidx
  rw [if_neg (by simp), ← Int.natCast_emod, Int.toNat_natCast]
theorem smF_false (P : Nat) (l : List Int) (R k : Nat) : smF P l R false k = trF P l (pwF P R) k := by
  unfold smF trF
  exact sumM_congr (fun j _ => by simp only [bidx_false])
noncomputable def fwdL (P : Nat) (l : List Int) : List Int := fullL (trF P l (pwF P (rootN P l.length))) l.length
theorem fwdL_len (P : Nat) (l : List Int) : (fwdL P l).length = l.length := fullL_len _ _
noncomputable def fwdS (p : Int) (l : List Int) : List Int × Int := if chkL p l = 0 then (fwdL p.toNat l, 0) else ([], chkL p l)
theorem RetFE.own {w w' : World} {A : Option Addr} {c n : Nat} {l : List Int} {x : Int} {r : List Int × Int} (hr : r = (l, x)) (hn : l.length = n) (h : RI .i64 w' A l) (hb : Below w.heap.size w w') : RetFE w r (.returned (.tuple #[.slice A n c, .int .i64 x])) w' := by
  subst hr; subst hn; exact ⟨A, c, rfl, h, hb⟩
theorem RetFE.no {w w' : World} {x : Int} {r : List Int × Int} (hr : r = ([], x)) (hb : Below w.heap.size w w') : RetFE w r (.returned (.tuple #[.slice none 0 0, .int .i64 x])) w' := by
  subst hr; exact ⟨Option.none, 0, rfl, RI.nil, hb⟩
theorem trF_bd {P : Nat} (hP : 0 < P) (l : List Int) (pw : Nat → Int) (k : Nat) : 0 ≤ trF P l pw k ∧ trF P l pw k < P := sumM_bd (by omega) _ _

theorem fwd_any (p : Int) (A : Option Addr) (c : Nat) (l : List Int) (w : World) (hx : RI .i64 w A l) (hl : l.length ≤ 9223372036854775807) (hp1 : -9223372036854775808 ≤ p) (hp2 : p ≤ 9223372036854775807) :
    Calls Try.prog 20 #[.int .i64 p, .slice A l.length c] w (RetFE w (fwdS p l)) := by
  rcases chkL_cases p l with ⟨e0, P, rfl, hF⟩ | e0
  · have c0 : (chkL (P : Int) l != 0) = false := by rw [e0]; rfl
    have HS := Lib.hid (show fwdS (P : Int) l = (fwdL P l, 0) by unfold fwdS; rw [if_pos e0]; rfl)
    have h1 := hF.l1
    have h2 := hF.l64
    have h3 := hF.pr.1
    have h4 := hF.le
    have hlt := rootN_lt (P := P) (n := l.length) (by omega)
    have HR := Lib.hid (rootS_fit hF)
    have hC := fun w => ringRoot_any (P : Int) (l.length : Int) w (by omega) (by omega) (by omega)
    simp only [HR.out] at hC
    have HC := Lib.hid hC
    have HF := Lib.hid hF
    clear hC hF e0
    have hwl := fullL_len (pwF P (rootN P l.length)) l.length
    go_enter Try.func20, Try.ntmps20
    go_wp2_with fail
    refine (chkF_any _ _ _ _ _ hx hl (by omega) (by omega)).mono ?_
    rintro _ w1 ⟨rfl, hb1⟩
    go_wp2_with fail
    refine (HC.out _).mono ?_
    rintro _ w2 ⟨rfl, hb2⟩
    have hB2 := bstep hb1 hb2
    clear hb1 hb2
    go_wp2_with fail
    refine (powers_any P (rootN P l.length) l.length _ h3 h4 hlt (by omega)).mono ?_
    rintro _ w3 ⟨g3, rfl, hg3, hk3, hb3⟩
    have r3 := blk_RI hk3
    have hB3 := bstep hB2 hb3
    clear hB2 hb3 hk3
    simp only [hwl]
    have hT := transform_any P A (some ⟨g3, 0, none⟩) c l.length l (pwF P (rootN P l.length)) w3 h3 h4 (hx.keep hB3) r3 h1 h2 HF.out.el (fun j _ => pwF_bd (by omega) j)
    go_wp2_with fail
    refine (hT).mono ?_
    rintro _ w4 ⟨g4, rfl, hg4, hk4, hb4⟩
    go_wp2
    go_ret2
    exact RetFE.own HS.out rfl (blk_RI hk4) (bstep hB3 hb4)
  · have c0 : (chkL p l != 0) = true := by rw [bne_iff_ne]; exact e0
    have HS := Lib.hid (show fwdS p l = ([], chkL p l) by unfold fwdS; rw [if_neg e0])
    clear e0
    go_enter Try.func20, Try.ntmps20
    go_wp2_with fail
    refine (chkF_any _ _ _ _ _ hx hl hp1 hp2).mono ?_
    rintro _ w1 ⟨rfl, hb1⟩
    go_wp2
    go_ret2
    exact RetFE.no HS.out hb1
theorem refFwd_any (p : Int) (A : Option Addr) (c : Nat) (l : List Int) (w : World) (hx : RI .i64 w A l) (hl : l.length ≤ 9223372036854775807) (hp1 : -9223372036854775808 ≤ p) (hp2 : p ≤ 9223372036854775807) :
    Calls Try.prog 21 #[.int .i64 p, .slice A l.length c] w (RetFE w (fwdS p l)) := by
  rcases chkL_cases p l with ⟨e0, P, rfl, hF⟩ | e0
  · have c0 : (chkL (P : Int) l != 0) = false := by rw [e0]; rfl
    have HS := Lib.hid (show fwdS (P : Int) l = (fullL (smF P l (rootN P l.length) false) l.length, 0) by
      unfold fwdS; rw [if_pos e0]
      show (fwdL P l, (0 : Int)) = _
      unfold fwdL
      rw [fullL_congr (fun i _ => smF_false P l (rootN P l.length) i)])
    have HF := Lib.hid hF
    clear hF e0
    have h4 := HF.out.le
    go_enter Try.func21, Try.ntmps21
    go_wp2_with fail
    refine (refChk_any _ _ _ _ _ hx hl (by omega) (by omega)).mono ?_
    rintro _ w1 ⟨rfl, hb1⟩
    go_wp2_with fail
    refine (refSums_fwd P _ _ l _ (hx.keep hb1) HF.out).mono ?_
    rintro _ w2 ⟨A2, c2, rfl, hc2, ho2, hb2⟩
    go_wp2
    go_ret2
    exact RetFE.own HS.out rfl (own_RI ho2) (bstep hb1 hb2)
  · have c0 : (chkL p l != 0) = true := by rw [bne_iff_ne]; exact e0
    have HS := Lib.hid (show fwdS p l = ([], chkL p l) by unfold fwdS; rw [if_neg e0])
    clear e0
    go_enter Try.func21, Try.ntmps21
    go_wp2_with fail
    refine (refChk_any _ _ _ _ _ hx hl hp1 hp2).mono ?_
    rintro _ w1 ⟨rfl, hb1⟩
    go_wp2_with fail
    refine (refChk_any _ _ _ _ _ (hx.keep hb1) hl hp1 hp2).mono ?_
    rintro _ w2 ⟨rfl, hb2⟩
    go_wp2
    go_ret2
    exact RetFE.no HS.out (bstep hb1 hb2)
end Go.Proofs.Ytdcacklochaljaa
