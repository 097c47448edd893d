/-
  Parts of the proof of TopCorrelate: FouA FouB FouD FouE FouF FouI.
-/
import Derived.Test.YtelkokcnedbmeaaGreatT27
import Derived.Test.YtelkokcnedbmeaaGreatT02
import Derived.Laws.AppendOwnNone
import Derived.OwnWalk
import Derived.Deep.Onto
import Derived.Test.YtelkokcnedbmeaaGreatT15
import Derived.Deep.AppendLies
import Derived.Deep.RegionHeld3
namespace Go.Proofs.YtelkokcnedbmeaaGreat
open Go.RowKit Num
set_option maxRecDepth 20000
set_option maxRecDepth 8000
set_option linter.unusedVariables false
noncomputable def chkL (p : Int) (l : List Int) : Int :=
 if okP p = true then (if l.length < 1 ∨ 64 < l.length then 4 else if (p - 1) % (l.length : Int) ≠ 0 then 6 else if l.any (fun x => decide (x < 0 ∨ p ≤ x)) = true then 8 else 0) else 2
structure Fit (P : Nat) (l : List Int) : Prop where
 pr : Pr P
 le : P ≤ 2000000000
 l1 : 1 ≤ l.length
 l64 : l.length ≤ 64
 dv : (P - 1) % l.length = 0
 el : ∀ j, j < l.length → 0 ≤ l.getD j 0 ∧ l.getD j 0 < P
theorem any_false {l : List Int} {p : Int} (h : ∀ j, j < l.length → 0 ≤ l.getD j 0 ∧ l.getD j 0 < p) : l.any (fun x => decide (x < 0 ∨ p ≤ x)) = false := by
 rw [List.any_eq_false]
 intro x hx
 obtain ⟨j, hj, e⟩ := List.getElem_of_mem hx
 have := h j hj
 rw [getD_lt _ _ hj, e] at this
 simp; omega
theorem any_true {l : List Int} {p : Int} {k : Nat} (hk : k < l.length) (h : l.getD k 0 < 0 ∨ p ≤ l.getD k 0) : l.any (fun x => decide (x < 0 ∨ p ≤ x)) = true := by
 rw [List.any_eq_true]
 rw [getD_lt _ _ hk] at h
 exact ⟨l[k], List.getElem_mem hk, by simpa using h⟩
theorem chkL_ok {P : Nat} {l : List Int} (h : Fit P l) : chkL (P : Int) l = 0 := by
 have h1 := h.l1
 have h2 := h.l64
 have h3 := h.pr.1
 unfold chkL
 rw [if_pos (okP_iff.2 ⟨P, rfl, h.pr.1, h.le, h.pr⟩), if_neg (by omega), if_neg (by rw [show (P : Int) - 1 = ((P - 1 : Nat) : Int) by omega, ← Int.natCast_emod, h.dv]; simp), any_false h.el]
 rfl
theorem chkL_cases (p : Int) (l : List Int) : (chkL p l = 0 ∧ ∃ P : Nat, p = P ∧ Fit P l) ∨ chkL p l ≠ 0 := by
 by_cases h0 : chkL p l = 0
 ·left
  refine ⟨h0, ?_⟩
  unfold chkL at h0
  by_cases h1 : okP p = true
  ·rw [if_pos h1] at h0
   obtain ⟨P, rfl, a, b, c⟩ := okP_iff.1 h1
   by_cases h2 : l.length < 1 ∨ 64 < l.length
   ·rw [if_pos h2] at h0; omega
   ·rw [if_neg h2] at h0
    by_cases h3 : ((P : Int) - 1) % (l.length : Int) ≠ 0
    ·rw [if_pos h3] at h0; omega
    ·rw [if_neg h3] at h0
     by_cases h4 : l.any (fun x => decide (x < 0 ∨ (P : Int) ≤ x)) = true
     ·rw [if_pos h4] at h0; omega
     ·refine ⟨P, rfl, c, b, by omega, by omega, ?_, ?_⟩
      ·rw [show (P : Int) - 1 = ((P - 1 : Nat) : Int) by omega, ← Int.natCast_emod] at h3
       omega
      ·intro j hj
       apply Classical.byContradiction
       intro hc
       exact h4 (any_true hj (by omega))
  ·rw [if_neg h1] at h0; omega
 ·exact Or.inr h0
set_option maxHeartbeats 1000000 in
theorem chkF_any (p : Int) (A : Option Addr) (c : Nat) (l : List Int) (w : World) (hx : RI .i64 w A l) (hl : l.length ≤ 9223372036854775807) (hp1 : -9223372036854775808 ≤ p) (hp2 : p ≤ 9223372036854775807) :
 Calls Tryz.prog 102 #[.int .i64 p, .slice A l.length c] w fun e w' => e = .returned (.int .i64 (chkL p l)) ∧ Below w.heap.size w w' := by
 rcases ok_cases p with ⟨e0, e1, P, rfl, h2, h3, hP⟩ | ⟨e0, e1⟩
 ·have c0 : (chkE (P : Int) != 0) = false := by rw [e0]; rfl
  have HP := Lib.hid hP
  clear hP
  have eP : ((P - 1 : Nat) : Int) = (P : Int) - 1 := by omega
  rcases (show l.length < 1 ∨ (1 ≤ l.length ∧ 64 < l.length) ∨ (1 ≤ l.length ∧ l.length ≤ 64) by omega) with h | ⟨h, h'⟩ | ⟨h, h'⟩
  ·have HE := Lib.hid (show chkL (P : Int) l = 4 by unfold chkL; rw [if_pos e1, if_pos (by omega)])
   go_enter Tryz.func102, Tryz.ntmps102
   go_wp2_with fail
   refine (ringCheck_any _ _ (by omega) (by omega)).mono ?_
   rintro _ w1 ⟨rfl, hb1⟩
   go_wp2
   go_ret
   exact ⟨ret_int HE.out.symm, hb1⟩
  ·have HE := Lib.hid (show chkL (P : Int) l = 4 by unfold chkL; rw [if_pos e1, if_pos (by omega)])
   go_enter Tryz.func102, Tryz.ntmps102
   go_wp2_with fail
   refine (ringCheck_any _ _ (by omega) (by omega)).mono ?_
   rintro _ w1 ⟨rfl, hb1⟩
   go_wp2
   go_ret
   exact ⟨ret_int HE.out.symm, hb1⟩
  ·have g0 : IntKind.i64.wrap ((P : Int) - 1) = ((P - 1 : Nat) : Int) := by rw [IntWalk.i64_in _ (by omega)]; omega
   have hz1 : ((l.length : Int) == 0) = false := by rw [beq_eq_false_iff_ne]; omega
   by_cases hm : (P - 1) % l.length = 0
   ·have f1 : ((((P - 1) % l.length : Nat) : Int) != 0) = false := by rw [hm]; rfl
    have HM := Lib.hid (show ¬ ((P : Int) - 1) % (l.length : Int) ≠ 0 by rw [← eP, ← Int.natCast_emod, hm]; simp)
    clear hm eP
    go_enter Tryz.func102, Tryz.ntmps102
    go_wp2_with fail
    refine (ringCheck_any _ _ (by omega) (by omega)).mono ?_
    rintro _ w1 ⟨rfl, hb1⟩
    have hr := hx.keep hb1
    go_wp2
    (try clear f1)
    go_loopg [29] l.length (fun gk i wr => ∃ (k q : Nat), k + gk = l.length ∧ i = .int .i64 k ∧ wr = w1.drewN q ∧ Hid (∀ j, j < k → 0 ≤ l.getD j 0 ∧ l.getD j 0 < P))
    case atStart => exact ⟨0, 0, by omega, rfl, rfl, Lib.hid (by intro j hj; omega)⟩
    case round =>
     obtain ⟨k, q, hk, rfl, rfl, HA⟩ := hrel
     have hk' : k ≤ l.length := by omega
     have HK := Lib.hid hk
     clear hk
     by_cases hlt : k < l.length
     ·obtain ⟨b1, off1, rfl, hlw1, hc1⟩ := hr.at2 hlt
      have HB := Lib.hid (fun (h : l.getD k 0 < 0 ∨ (P : Int) ≤ l.getD k 0) => show chkL (P : Int) l = 8 by
       unfold chkL; rw [if_pos e1, if_neg (by omega), if_neg HM.out, if_pos (any_true hlt h)])
      have HG := Lib.hid (fun (h : 0 ≤ l.getD k 0 ∧ l.getD k 0 < P) => show ∀ j, j < k + 1 → 0 ≤ l.getD j 0 ∧ l.getD j 0 < P from all_lt_succ HA.out h)
      generalize l.getD k 0 = x at *
      rcases (show x < 0 ∨ (0 ≤ x ∧ (P : Int) ≤ x) ∨ (0 ≤ x ∧ x < P) by omega) with hx1 | ⟨hx1, hx2⟩ | ⟨hx1, hx2⟩
      ·have HE := Lib.hid (HB.out (by omega))
       have d1 : decide (x < 0) = true := decide_eq_true hx1
       go_wp2
       skip
       go_ret
       exact ⟨ret_int HE.out.symm, below_drewN hb1 _⟩
      ·have HE := Lib.hid (HB.out (by omega))
       have d1 : decide (x < 0) = false := decide_eq_false (by omega)
       have d2 : decide ((P : Int) ≤ x) = true := decide_eq_true hx2
       go_wp2
       skip
       go_ret
       exact ⟨ret_int HE.out.symm, below_drewN hb1 _⟩
      ·have HE := Lib.hid (HG.out (by omega))
       have d1 : decide (x < 0) = false := decide_eq_false (by omega)
       have d2 : decide ((P : Int) ≤ x) = false := decide_eq_false (by omega)
       go_wp2
       skip
       go_roundg (gk - 1)
       case rel => exact ⟨k + 1, _, by have := HK.out; omega, by go_num, rfl, HE⟩
       case measure => have := HK.out; omega
     ·have HE := Lib.hid (show chkL (P : Int) l = 0 by
       unfold chkL; rw [if_pos e1, if_neg (by omega), if_neg HM.out, any_false (fun j hj => HA.out j (by omega))]; rfl)
      go_wp2
      go_ret
      exact ⟨ret_int HE.out.symm, below_drewN hb1 _⟩
   ·have f1 : ((((P - 1) % l.length : Nat) : Int) != 0) = true := by rw [bne_iff_ne]; omega
    have HE := Lib.hid (show chkL (P : Int) l = 6 by unfold chkL; rw [if_pos e1, if_neg (by omega), if_pos (by rw [← eP, ← Int.natCast_emod]; omega)])
    clear hm eP
    go_enter Tryz.func102, Tryz.ntmps102
    go_wp2_with fail
    refine (ringCheck_any _ _ (by omega) (by omega)).mono ?_
    rintro _ w1 ⟨rfl, hb1⟩
    go_wp2
    go_ret
    exact ⟨ret_int HE.out.symm, hb1⟩
 ·have c0 : (chkE p != 0) = true := by rw [e0]; rfl
  have HE := Lib.hid (show chkL p l = chkE p by unfold chkL; rw [e1, e0]; rfl)
  have HC := Lib.hid e0
  clear e0
  go_enter Tryz.func102, Tryz.ntmps102
  go_wp2_with fail
  refine (ringCheck_any _ _ hp1 hp2).mono ?_
  rintro _ w1 ⟨rfl, hb1⟩
  go_wp2
  go_ret
  first
   | exact ⟨ret_int HE.out.symm, hb1⟩
   | exact ⟨ret_int (HE.out.trans HC.out).symm, hb1⟩
end Go.Proofs.YtelkokcnedbmeaaGreat
namespace Go.Proofs.YtelkokcnedbmeaaGreat
open Go.RowKit Num
set_option maxRecDepth 20000
set_option maxRecDepth 8000
set_option linter.unusedVariables false
def pwF (P R : Nat) (j : Nat) : Int := ((R ^ j % P : Nat) : Int)
theorem pwF_bd {P R : Nat} (h : 0 < P) (j : Nat) : 0 ≤ pwF P R j ∧ pwF P R j < P := by
 unfold pwF
 have := Nat.mod_lt (R ^ j) h
 omega
def RetK (w : World) (l : List Int) (e : Ending) (w' : World) : Prop :=
 ∃ g, e = .returned (.slice (some ⟨g, 0, none⟩) l.length l.length) ∧ w.heap.size ≤ g ∧ Blk w' g 2 (l.flatMap (encI .i64)).toArray ∧ Below w.heap.size w w'
theorem powers_any (P R n : Nat) (w : World) (hP : 2 ≤ P) (hP2 : P ≤ 2000000000) (hR : R < P) (hn : n ≤ 1000) :
 Calls Tryz.prog 106 #[.int .i64 P, .int .i64 R, .int .i64 n] w (RetK w (fullL (pwF P R) n)) := by
 obtain ⟨i0, hi0, hz0, hz1, hz2⟩ := info_int64
 have hmk := mk_row (P := Tryz.prog) 62 2 Tryz.underlying62 hi0 hz0 hz1 hz2 (encI .i64) (encI_len .i64) (by omega) 0 rfl n (by omega) (by omega)
 go_enter Tryz.func106, Tryz.ntmps106
 go_wp2
 go_loopg [8, 14] n (fun gk x i wr => ∃ (k X : Nat), k + gk = n ∧ x = .int .i64 X ∧ i = .int .i64 k ∧ X < P ∧ Hid (X = R ^ k % P) ∧ Blk wr w.heap.size 2 ((partL (pwF P R) 0 n k).flatMap (encI .i64)).toArray ∧ Below w.heap.size w wr)
 case atStart => exact ⟨0, 1, by omega, rfl, rfl, by omega, Lib.hid (by rw [Nat.pow_zero]; exact (Nat.mod_eq_of_lt (by omega)).symm), by rw [partL_start]; exact Blk.new w 2 _, balloc (Below.refl _ _) _⟩
 case round =>
  obtain ⟨k, X, hk, rfl, rfl, hX, HX, hO, hb⟩ := hrel
  have hk' : k ≤ n := by omega
  have HK := Lib.hid hk
  clear hk hmk
  by_cases hlt : k < n
  ·have f1 := mul_wrap (x := X) (y := R) (by omega) (by omega)
   have o0 := blkI_at hO (j := k) (by rw [partL_len]; exact hlt)
   have of0 := hO.frozen k
   have hgl := hO.lt
   have HX2 := Lib.hid (show X * R % P = R ^ (k + 1) % P by rw [HX.out, Nat.pow_succ, Nat.mod_mul_mod])
   have HS := Lib.hid (partL_set (pwF P R) 0 n k (X : Int) (by unfold pwF; rw [← HX.out]))
   go_wp2
   go_roundg (gk - 1)
   case rel => exact ⟨k + 1, X * R % P, by have := HK.out; omega, rfl, by go_num, Nat.mod_lt _ (by omega), HX2, by rw [← HS.out]; exact blkI_set hO (by rw [partL_len]; exact hlt) _, hb.setCell (p := ⟨w.heap.size, k, none⟩) (Nat.le_refl _) _⟩
   case measure => have := HK.out; omega
  ·rw [partL_end _ _ _ _ (by omega)] at hO
   go_wp2
   go_ret
   exact ⟨_, by rw [fullL_len]; rfl, Nat.le_refl _, hO, hb⟩
def sumM (p : Int) (f : Nat → Int) : Nat → Int
 | 0 => 0
 | j + 1 => (sumM p f j + f j) % p
theorem sumM_bd {p : Int} (hp : 0 < p) (f : Nat → Int) (n : Nat) : 0 ≤ sumM p f n ∧ sumM p f n < p := by
 cases n with
 | zero => exact ⟨Int.le_refl 0, hp⟩
 | succ n => exact ⟨Int.emod_nonneg _ (by omega), Int.emod_lt_of_pos _ hp⟩
def trF (P : Nat) (l : List Int) (pw : Nat → Int) (k : Nat) : Int := sumM (P : Int) (fun j => l.getD j 0 * pw (j * k % l.length)) l.length
theorem fit_mul {P : Nat} {x y s : Int} (hP : P ≤ 2000000000) (hx : 0 ≤ x ∧ x < P) (hy : 0 ≤ y ∧ y < P) : 0 ≤ x * y ∧ x * y ≤ 4000000000000000000 := by
 have h1 : 0 ≤ x * y := Int.mul_nonneg hx.1 hy.1
 have h2 : x * y ≤ (2000000000 : Int) * 2000000000 := Int.mul_le_mul (by omega) (by omega) hy.1 (by omega)
 exact ⟨h1, by omega⟩
theorem partL_zero {f : Nat → Int} {n k : Nat} (h : k < n) : (partL f 0 n k).set k 0 = partL f 0 n k := by
 apply List.ext_getElem (by simp [partL])
 intro i h1 h2
 simp only [partL, List.getElem_set, List.getElem_map, List.getElem_range]
 by_cases e : k = i
 ·subst e; rw [if_pos rfl, if_neg (by omega)]
 ·rw [if_neg e]
set_option maxHeartbeats 1000000 in
theorem transform_any (P : Nat) (A B : Option Addr) (c d : Nat) (l : List Int) (pw : Nat → Int) (w : World) (hP : 2 ≤ P) (hP2 : P ≤ 2000000000) (hx : RI .i64 w A l) (hy : RI .i64 w B (fullL pw l.length)) (h1 : 1 ≤ l.length) (hl : l.length ≤ 64)
 (hb1 : ∀ j, j < l.length → 0 ≤ l.getD j 0 ∧ l.getD j 0 < P) (hb2 : ∀ j, j < l.length → 0 ≤ pw j ∧ pw j < P) :
 Calls Tryz.prog 105 #[.int .i64 P, .slice A l.length c, .slice B l.length d] w (RetK w (fullL (trF P l pw) l.length)) := by
 obtain ⟨i0, hi0, hz0, hz1, hz2⟩ := info_int64
 have hmk := mk_row (P := Tryz.prog) 62 2 Tryz.underlying62 hi0 hz0 hz1 hz2 (encI .i64) (encI_len .i64) (by omega) 0 rfl l.length (by omega) (by omega)
 have HB1 := Lib.hid hb1
 have HB2 := Lib.hid hb2
 clear hb1 hb2
 go_enter Tryz.func105, Tryz.ntmps105
 go_wp2
 go_loopg [16] l.length (fun gk i wr => ∃ (k : Nat), k + gk = l.length ∧ i = .int .i64 k ∧ Blk wr w.heap.size 2 ((partL (trF P l pw) 0 l.length k).flatMap (encI .i64)).toArray ∧ Below w.heap.size w wr)
 case atStart => exact ⟨0, by omega, rfl, by rw [partL_start]; exact Blk.new w 2 _, balloc (Below.refl _ _) _⟩
 case round =>
  obtain ⟨k, hk, rfl, hO, hb⟩ := hrel
  have hk' : k ≤ l.length := by omega
  have HK := Lib.hid hk
  clear hk hmk
  by_cases hlt : k < l.length
  ·obtain ⟨gu, hgu⟩ : ∃ gu, gu = gk := ⟨gk, rfl⟩
   have HGU := Lib.hid hgu
   clear hgu
   go_wp2
   go_loopg [21] l.length (fun gk i wr => ∃ (j : Nat) (s : Int), j + gk = l.length ∧ i = .int .i64 j ∧ 0 ≤ s ∧ s < P ∧ Hid (s = sumM (P : Int) (fun j => l.getD j 0 * pw (j * k % l.length)) j) ∧ Blk wr w.heap.size 2 (((partL (trF P l pw) 0 l.length k).set k s).flatMap (encI .i64)).toArray ∧ Below w.heap.size w wr)
   case atStart => exact ⟨0, 0, by omega, rfl, by omega, by omega, Lib.hid rfl, by rw [show (partL (trF P l pw) 0 l.length k).set k 0 = partL (trF P l pw) 0 l.length k from partL_zero hlt]; exact hO, hb⟩
   case round =>
    obtain ⟨j, s, hj, rfl, hs1, hs2, HS, hO2, hb2⟩ := hrel
    have hj' : j ≤ l.length := by omega
    have HJ := Lib.hid hj
    clear hj
    by_cases hlt2 : j < l.length
    ·obtain ⟨b1, off1, rfl, hlw1, hc1⟩ := (hx.keep hb2).at2 hlt2
     have hm : j * k % l.length < l.length := Nat.mod_lt _ (by omega)
     have hjk : j * k ≤ 64 * 64 := Nat.mul_le_mul (by omega) (by omega)
     obtain ⟨b2, off2, rfl, hlw2, hc2⟩ := (hy.keep hb2).at2 (i := j * k % l.length) (by rw [fullL_len]; exact hm)
     rw [fullL_getD _ _ _ _ hm] at hc2
     have bx := HB1.out j hlt2
     have by' := HB2.out _ hm
     have HN := Lib.hid (show sumM (P : Int) (fun j => l.getD j 0 * pw (j * k % l.length)) (j + 1) = (s + l.getD j 0 * pw (j * k % l.length)) % P by rw [HS.out]; rfl)
     have o0 := blkI_at hO2 (j := k) (by rw [List.length_set, partL_len]; exact hlt)
     rw [getD_lt _ _ (by rw [List.length_set, partL_len]; exact hlt), List.getElem_set_self] at o0
     have of0 := hO2.frozen k
     have hgl := hO2.lt
     have hw1 : IntKind.i64.wrap ((j : Int) * (k : Int)) = ((j * k : Nat) : Int) := mul_wrap (by omega) (by omega)
     generalize j * k = jk at *
     generalize hM : jk % l.length = m at *
     have hM2 : (jk : Int) % (l.length : Int) = (m : Int) := by rw [← Int.natCast_emod, hM]
     clear hM
     generalize l.getD j 0 = X at *
     generalize pw m = Y at *
     have fm := fit_mul (s := s) hP2 bx by'
     obtain ⟨Z, hZ⟩ : ∃ Z, Z = X * Y := ⟨_, rfl⟩
     have hw2 : IntKind.i64.wrap (X * Y) = Z := by rw [IntWalk.i64_in _ (by omega), hZ]
     rw [← hZ] at HN fm
     clear hZ
     have hpos : 0 < (P : Int) := by omega
     have r1 := Int.emod_nonneg (s + Z) (show (P : Int) ≠ 0 by omega)
     have r2 := Int.emod_lt_of_pos (s + Z) hpos
     have HI := Lib.hid (blkI_set hO2 (by rw [List.length_set, partL_len]; exact hlt) ((s + Z) % P))
     go_wp2
     all_goals
      go_region
      all_goals go_wp2
      all_goals
       go_roundg (gk - 1)
       case rel => exact ⟨j + 1, (s + Z) % P, by have := HJ.out; omega, by go_num, r1, r2, Lib.hid HN.out.symm, by have h := HI.out; rw [List.set_set] at h; exact h, (hb2.setCell (p := ⟨w.heap.size, k, none⟩) (Nat.le_refl _) _).drew⟩
       case measure => have := HJ.out; omega
    ·have hfin : s = trF P l pw k := by rw [HS.out, show j = l.length by omega]; rfl
     rw [partL_set _ _ _ _ _ hfin] at hO2
     clear hfin
     go_wp2
     go_roundg (gu - 1)
     case rel => exact ⟨k + 1, by have := HK.out; have := HGU.out; omega, by go_num, hO2, hb2⟩
     case measure => have := HK.out; have := HGU.out; omega
  ·rw [partL_end _ _ _ _ (by omega)] at hO
   go_wp2
   go_ret
   exact ⟨_, by rw [fullL_len]; rfl, Nat.le_refl _, hO, hb⟩
end Go.Proofs.YtelkokcnedbmeaaGreat
namespace Go.Proofs.YtelkokcnedbmeaaGreat
open Go.RowKit Num
set_option maxRecDepth 20000
set_option maxRecDepth 8000
set_option linter.unusedVariables false
theorem rootS_fit {P : Nat} {l : List Int} (h : Fit P l) : rootS (P : Int) (l.length : Int) = (((rootN P l.length : Nat) : Int), 0) := by
 have h1 := h.l1
 have h2 := h.pr.1
 unfold rootS
 rw [if_pos (okP_iff.2 ⟨P, rfl, h.pr.1, h.le, h.pr⟩), if_neg (by omega), if_neg (by rw [show (P : Int) - 1 = ((P - 1 : Nat) : Int) by omega, ← Int.natCast_emod, h.dv]; simp), Int.toNat_natCast, Int.toNat_natCast]
theorem rootN_lt {P n : Nat} (h : 0 < P) : rootN P n < P := Nat.mod_lt _ h
end Go.Proofs.YtelkokcnedbmeaaGreat
namespace Go.Proofs.YtelkokcnedbmeaaGreat
open Go.RowKit Num
set_option maxRecDepth 20000
set_option maxRecDepth 8000
set_option linter.unusedVariables false
noncomputable def fwdL (P : Nat) (l : List Int) : List Int := fullL (trF P l (pwF P (rootN P l.length))) l.length
theorem fwdL_len (P : Nat) (l : List Int) : (fwdL P l).length = l.length := fullL_len _ _
noncomputable def fwdS (p : Int) (l : List Int) : List Int × Int := if chkL p l = 0 then (fwdL p.toNat l, 0) else ([], chkL p l)
theorem RetFE.own {w w' : World} {A : Option Addr} {c n : Nat} {l : List Int} {x : Int} {r : List Int × Int} (hr : r = (l, x)) (hn : l.length = n) (h : RI .i64 w' A l) (hb : Below w.heap.size w w') : RetFE w r (.returned (.tuple #[.slice A n c, .int .i64 x])) w' := by
 subst hr; subst hn; exact ⟨A, c, rfl, h, hb⟩
theorem RetFE.no {w w' : World} {x : Int} {r : List Int × Int} (hr : r = ([], x)) (hb : Below w.heap.size w w') : RetFE w r (.returned (.tuple #[.slice none 0 0, .int .i64 x])) w' := by
 subst hr; exact ⟨Option.none, 0, rfl, RI.nil, hb⟩
theorem trF_bd {P : Nat} (hP : 0 < P) (l : List Int) (pw : Nat → Int) (k : Nat) : 0 ≤ trF P l pw k ∧ trF P l pw k < P := sumM_bd (by omega) _ _
end Go.Proofs.YtelkokcnedbmeaaGreat
namespace Go.Proofs.YtelkokcnedbmeaaGreat
open Go.RowKit Num
set_option maxRecDepth 20000
set_option maxRecDepth 8000
set_option linter.unusedVariables false
def invN (P A : Nat) : Nat := A ^ (P - 2) % P
theorem invN_mul {P A : Nat} (hP : Pr P) (h0 : 0 < A) (hA : A < P) : A * invN P A % P = 1 := by
 have h2 := hP.1
 unfold invN
 rw [Nat.mul_mod, Nat.mod_mod, ← Nat.mul_mod, Nat.mul_comm, ← Nat.pow_succ, show (P - 2).succ = P - 1 by omega]
 exact fermat1 hP (hP.not_dvd_lt h0 hA)
theorem invN_lt {P A : Nat} (h : 0 < P) : invN P A < P := Nat.mod_lt _ h
theorem invS_val {P A : Nat} (hP : Pr P) (h3 : P ≤ 2000000000) (h0 : 0 < A) (hA : A < P) : invS (P : Int) (A : Int) = (((invN P A : Nat) : Int), 0) := by
 unfold invS
 rw [if_pos (show bothE (P : Int) (A : Int) = 0 by unfold bothE; rw [if_pos (okP_iff.2 ⟨P, rfl, hP.1, h3, hP⟩), if_neg (by omega)]), if_neg (by omega), Int.toNat_natCast, Int.toNat_natCast]
 rfl
theorem root_pos {P : Nat} {l : List Int} (h : Fit P l) : 0 < rootN P l.length := by
 have ho := rootN_ord h.pr (Nat.dvd_of_mod_eq_zero h.dv)
 have h1 := h.l1
 rcases Nat.eq_zero_or_pos (rootN P l.length) with h0 | h0
 ·have := ho.one
  rw [h0, Nat.zero_pow (by omega), Nat.zero_mod] at this
  omega
 ·exact h0
theorem len_lt_P {P : Nat} {l : List Int} (h : Fit P l) : l.length < P := by
 have h1 := h.pr.1
 have := Nat.le_of_dvd (by omega) (Nat.dvd_of_mod_eq_zero h.dv)
 omega
theorem pow_mul_one {P x y : Nat} (h1 : 1 < P) (h : x * y % P = 1) (e : Nat) : x ^ e * y ^ e % P = 1 := by
 have e1 : 1 % P = 1 := Nat.mod_eq_of_lt h1
 rw [← Nat.mul_pow, Nat.pow_mod, h, Nat.one_pow, e1]
noncomputable def bkF (P : Nat) (l : List Int) (k : Nat) : Int := trF P l (pwF P (invN P (rootN P l.length))) k * ((invN P l.length : Nat) : Int) % (P : Int)
noncomputable def bkL (P : Nat) (l : List Int) : List Int := fullL (bkF P l) l.length
noncomputable def bkS (p : Int) (l : List Int) : List Int × Int := if chkL p l = 0 then (bkL p.toNat l, 0) else ([], chkL p l)
def mixL (f g : Nat → Int) (n k : Nat) : List Int := (List.range n).map (fun i => if i < k then f i else g i)
theorem mixL_len (f g : Nat → Int) (n k : Nat) : (mixL f g n k).length = n := by simp [mixL]
theorem mixL_start (f g : Nat → Int) (n : Nat) : mixL f g n 0 = fullL g n := by simp [mixL, fullL]
theorem mixL_end (f g : Nat → Int) (n k : Nat) (h : n ≤ k) : mixL f g n k = fullL f n := by
 apply List.ext_getElem (by simp [mixL, fullL])
 intro i h1 h2
 have : i < n := by simpa [mixL] using h1
 simp only [mixL, fullL, List.getElem_map, List.getElem_range]
 rw [if_pos (by omega)]
theorem mixL_at (f g : Nat → Int) {n k : Nat} (h : k < n) : (mixL f g n k).getD k 0 = g k := by
 rw [getD_lt _ _ (by rw [mixL_len]; exact h)]
 simp [mixL]
theorem mixL_set (f g : Nat → Int) (n k : Nat) (y : Int) (hy : y = f k) : (mixL f g n k).set k y = mixL f g n (k + 1) := by
 subst hy
 apply List.ext_getElem (by simp [mixL])
 intro i h1 h2
 simp only [mixL, List.getElem_set, List.getElem_map, List.getElem_range]
 by_cases e : k = i
 ·subst e; rw [if_pos rfl, if_pos (by omega)]
 ·rw [if_neg e]
  by_cases h : i < k
  ·rw [if_pos h, if_pos (by omega)]
  ·rw [if_neg h, if_neg (by omega)]
set_option maxHeartbeats 1000000 in
theorem back_any (p : Int) (A : Option Addr) (c : Nat) (l : List Int) (w : World) (hx : RI .i64 w A l) (hl : l.length ≤ 9223372036854775807) (hp1 : -9223372036854775808 ≤ p) (hp2 : p ≤ 9223372036854775807) :
 Calls Tryz.prog 85 #[.int .i64 p, .slice A l.length c] w (RetFE w (bkS p l)) := by
 rcases chkL_cases p l with ⟨e0, P, rfl, hF⟩ | e0
 ·have c0 : (chkL (P : Int) l != 0) = false := by rw [e0]; rfl
  have HS := Lib.hid (show bkS (P : Int) l = (bkL P l, 0) by unfold bkS; rw [if_pos e0]; rfl)
  have h1 := hF.l1
  have h2 := hF.l64
  have h3 := hF.pr.1
  have h4 := hF.le
  have hlt := rootN_lt (P := P) (n := l.length) (by omega)
  have hnP := len_lt_P hF
  have hil := invN_lt (P := P) (A := rootN P l.length) (by omega)
  have hpl := invN_lt (P := P) (A := l.length) (by omega)
  have HR := Lib.hid (rootS_fit hF)
  have HI := Lib.hid (invS_val hF.pr h4 (root_pos hF) hlt)
  have HJ := Lib.hid (invS_val hF.pr h4 (show 0 < l.length by omega) hnP)
  have hC := fun w => ringRoot_any (P : Int) (l.length : Int) w (by omega) (by omega) (by omega)
  have hD := fun w => ringInv_any (P : Int) ((rootN P l.length : Nat) : Int) w (by omega) (by omega)
  have hE := fun w => ringInv_any (P : Int) (l.length : Int) w (by omega) (by omega)
  simp only [HR.out] at hC
  simp only [HI.out] at hD
  simp only [HJ.out] at hE
  have HC := Lib.hid hC
  have HD := Lib.hid hD
  have HEE := Lib.hid hE
  have HF := Lib.hid hF
  clear hC hD hE hF e0
  have hwl := fullL_len (pwF P (invN P (rootN P l.length))) l.length
  have HBK := Lib.hid (show bkF P l = fun k => trF P l (pwF P (invN P (rootN P l.length))) k * ((invN P l.length : Nat) : Int) % (P : Int) from rfl)
  go_enter Tryz.func85, Tryz.ntmps85
  go_wp2_with fail
  refine (chkF_any _ _ _ _ _ hx hl (by omega) (by omega)).mono ?_
  rintro _ w1 ⟨rfl, hb1⟩
  go_wp2_with fail
  refine (HC.out _).mono ?_
  rintro _ w2 ⟨rfl, hb2⟩
  have hB2 := bstep hb1 hb2
  clear hb1 hb2
  go_wp2_with fail
  refine (HD.out _).mono ?_
  rintro _ w2a ⟨rfl, hb2a⟩
  have hB2a := bstep hB2 hb2a
  clear hB2 hb2a
  go_wp2_with fail
  refine (HEE.out _).mono ?_
  rintro _ w2b ⟨rfl, hb2b⟩
  have hB2b := bstep hB2a hb2b
  clear hB2a hb2b
  go_wp2_with fail
  refine (powers_any P (invN P (rootN P l.length)) l.length _ h3 h4 hil (by omega)).mono ?_
  rintro _ w3 ⟨g3, rfl, hg3, hk3, hb3⟩
  have r3 := blk_RI hk3
  have hB3 := bstep hB2b hb3
  clear hB2b hb3 hk3
  simp only [hwl]
  have hT := transform_any P A (some ⟨g3, 0, none⟩) c l.length l (pwF P (invN P (rootN P l.length))) w3 h3 h4 (hx.keep hB3) r3 h1 h2 HF.out.el (fun j _ => pwF_bd (by omega) j)
  go_wp2_with fail
  refine (hT).mono ?_
  rintro _ w4 ⟨g4, rfl, hg4, hk4, hb4⟩
  have hB4 := bstep hB3 hb4
  have hg4' : w.heap.size ≤ g4 := Nat.le_trans hB3.size hg4
  have htl := fullL_len (trF P l (pwF P (invN P (rootN P l.length)))) l.length
  simp only [htl]
  rw [← mixL_start (bkF P l) (trF P l (pwF P (invN P (rootN P l.length)))) l.length] at hk4
  have HTB := Lib.hid (fun k => trF_bd (P := P) (by omega) l (pwF P (invN P (rootN P l.length))) k)
  generalize invN P (rootN P l.length) = BB at *
  generalize invN P l.length = PT at *
  generalize trF P l (pwF P BB) = TR at *
  go_wp2
  go_loopg [58] l.length (fun gk i wr => ∃ k : Nat, k + gk = l.length ∧ i = .int .i64 k ∧ Blk wr g4 2 ((mixL (bkF P l) TR l.length k).flatMap (encI .i64)).toArray ∧ Below w.heap.size w wr)
  case atStart => exact ⟨0, by omega, rfl, hk4, hB4⟩
  case round =>
   obtain ⟨k, hk, rfl, hO, hb⟩ := hrel
   have hk' : k ≤ l.length := by omega
   have HK := Lib.hid hk
   clear hk
   by_cases hlt2 : k < l.length
   ·have o0 := blkI_at hO (j := k) (by rw [mixL_len]; exact hlt2)
    rw [mixL_at _ _ hlt2] at o0
    have of0 := hO.frozen k
    have hgl := hO.lt
    have bx := HTB.out k
    have HY := Lib.hid (show TR k * (PT : Int) % (P : Int) = bkF P l k by rw [HBK.out])
    generalize TR k = X at *
    have fm := fit_mul (s := 0) (x := X) (y := (PT : Int)) h4 bx (by omega)
    obtain ⟨Z, hZ⟩ : ∃ Z, Z = X * (PT : Int) := ⟨_, rfl⟩
    have hw2 : IntKind.i64.wrap (X * (PT : Int)) = Z := by rw [IntWalk.i64_in _ (by omega), hZ]
    rw [← hZ] at HY fm
    clear hZ
    have HM := Lib.hid (mixL_set (bkF P l) TR l.length k (Z % (P : Int)) HY.out)
    go_wp2
    all_goals
     go_roundg (gk - 1)
     case rel => exact ⟨k + 1, by have := HK.out; omega, by go_num, by rw [← HM.out]; exact blkI_set hO (by rw [mixL_len]; exact hlt2) _, hb.setCell (p := ⟨g4, k, none⟩) hg4' _⟩
     case measure => have := HK.out; omega
   ·rw [mixL_end _ _ _ _ (by omega)] at hO
    go_wp2
    go_ret2
    exact RetFE.own HS.out (fullL_len _ _) (blk_RI hO) hb
 ·have c0 : (chkL p l != 0) = true := by rw [bne_iff_ne]; exact e0
  have HS := Lib.hid (show bkS p l = ([], chkL p l) by unfold bkS; rw [if_neg e0])
  clear e0
  go_enter Tryz.func85, Tryz.ntmps85
  go_wp2_with fail
  refine (chkF_any _ _ _ _ _ hx hl hp1 hp2).mono ?_
  rintro _ w1 ⟨rfl, hb1⟩
  go_wp2
  go_ret2
  exact RetFE.no HS.out hb1
end Go.Proofs.YtelkokcnedbmeaaGreat
namespace Go.Proofs.YtelkokcnedbmeaaGreat
open Go.RowKit Num
set_option maxRecDepth 20000
set_option maxRecDepth 8000
set_option linter.unusedVariables false
def sgF (P : Nat) (l : List Int) (k : Nat) : Int := if (P : Int) < 2 * l.getD k 0 then l.getD k 0 - P else l.getD k 0
noncomputable def sgS (p : Int) (l : List Int) : List Int × Int := if chkL p l = 0 then (fullL (sgF p.toNat l) l.length, 0) else ([], chkL p l)
def rdF (P : Nat) (l : List Int) (k : Nat) : Int := l.getD k 0 % (P : Int)
noncomputable def rdS (p : Int) (l : List Int) : List Int × Int :=
 if okP p = true then (if 1000 < l.length then ([], 4) else if l.any (fun x => decide (x < -p ∨ p < x)) = true then ([], 8) else (fullL (rdF p.toNat l) l.length, 0)) else ([], 2)
theorem any2_false {l : List Int} {p : Int} (h : ∀ j, j < l.length → -p ≤ l.getD j 0 ∧ l.getD j 0 ≤ p) : l.any (fun x => decide (x < -p ∨ p < x)) = false := by
 rw [List.any_eq_false]
 intro x hx
 obtain ⟨j, hj, e⟩ := List.getElem_of_mem hx
 have := h j hj
 rw [getD_lt _ _ hj, e] at this
 simp; omega
theorem any2_true {l : List Int} {p : Int} {k : Nat} (hk : k < l.length) (h : l.getD k 0 < -p ∨ p < l.getD k 0) : l.any (fun x => decide (x < -p ∨ p < x)) = true := by
 rw [List.any_eq_true]
 rw [getD_lt _ _ hk] at h
 exact ⟨l[k], List.getElem_mem hk, by simpa using h⟩
set_option maxHeartbeats 1000000 in
theorem reduce_any (p : Int) (A : Option Addr) (c : Nat) (l : List Int) (w : World) (hx : RI .i64 w A l) (hl : l.length ≤ 9223372036854775807) (hp1 : -9223372036854775808 ≤ p) (hp2 : p ≤ 9223372036854775807) :
 Calls Tryz.prog 100 #[.int .i64 p, .slice A l.length c] w (RetFE w (rdS p l)) := by
 rcases ok_cases p with ⟨e0, e1, P, rfl, h2, h3, hP⟩ | ⟨e0, e1⟩
 ·have c0 : (chkE (P : Int) != 0) = false := by rw [e0]; rfl
  clear e0 hP
  by_cases hlen : 1000 < l.length
  ·have d1 : decide (1000 < l.length) = true := decide_eq_true hlen
   have HS := Lib.hid (show rdS (P : Int) l = ([], 4) by unfold rdS; rw [if_pos e1, if_pos hlen])
   go_enter Tryz.func100, Tryz.ntmps100
   go_wp2_with fail
   refine (ringCheck_any _ _ (by omega) (by omega)).mono ?_
   rintro _ w1 ⟨rfl, hb1⟩
   go_wp2
   go_ret2
   exact RetFE.no HS.out hb1
  ·have d1 : decide (1000 < l.length) = false := decide_eq_false hlen
   obtain ⟨i0, hi0, hz0, hz1, hz2⟩ := info_int64
   have hmk := mk_row (P := Tryz.prog) 62 2 Tryz.underlying62 hi0 hz0 hz1 hz2 (encI .i64) (encI_len .i64) (by omega) 0 rfl l.length (by omega) (by omega)
   go_enter Tryz.func100, Tryz.ntmps100
   go_wp2_with fail
   refine (ringCheck_any _ _ (by omega) (by omega)).mono ?_
   rintro _ w1 ⟨rfl, hb1⟩
   go_wp2
   go_loopg [23] l.length (fun gk i wr => ∃ k : Nat, k + gk = l.length ∧ i = .int .i64 k ∧ Blk wr w1.heap.size 2 ((partL (rdF P l) 0 l.length k).flatMap (encI .i64)).toArray ∧ Below w1.heap.size w1 wr ∧ Hid (∀ j, j < k → -(P : Int) ≤ l.getD j 0 ∧ l.getD j 0 ≤ P))
   case atStart => exact ⟨0, by omega, rfl, by rw [partL_start]; exact Blk.new w1 2 _, balloc (Below.refl _ _) _, Lib.hid (by intro j hj; omega)⟩
   case round =>
    obtain ⟨k, hk, rfl, hO, hb, HA⟩ := hrel
    have hk' : k ≤ l.length := by omega
    have HK := Lib.hid hk
    clear hk hmk
    by_cases hlt : k < l.length
    ·obtain ⟨b1, off1, rfl, hlw1, hc1⟩ := ((hx.keep hb1).keep hb).at2 hlt
     have o0 := blkI_at hO (j := k) (by rw [partL_len]; exact hlt)
     have of0 := hO.frozen k
     have hgl := hO.lt
     have HB := Lib.hid (fun (h : l.getD k 0 < -(P : Int) ∨ (P : Int) < l.getD k 0) => show rdS (P : Int) l = ([], 8) by
      unfold rdS; rw [if_pos e1, if_neg hlen, if_pos (any2_true hlt h)])
     have HG := Lib.hid (fun (h : -(P : Int) ≤ l.getD k 0 ∧ l.getD k 0 ≤ P) => show ∀ j, j < k + 1 → -(P : Int) ≤ l.getD j 0 ∧ l.getD j 0 ≤ P from all_lt_succ HA.out h)
     have HN := Lib.hid (show l.getD k 0 % (P : Int) = rdF P l k from rfl)
     generalize l.getD k 0 = x at *
     rcases (show x < -(P : Int) ∨ (-(P : Int) ≤ x ∧ (P : Int) < x) ∨ (-(P : Int) ≤ x ∧ x ≤ P) by omega) with hx1 | ⟨hx1, hx2⟩ | ⟨hx1, hx2⟩
     ·have HE := Lib.hid (HB.out (by omega))
      go_wp2
      go_ret2
      exact RetFE.no HE.out (bstep hb1 hb)
     ·have HE := Lib.hid (HB.out (by omega))
      go_wp2
      go_ret2
      exact RetFE.no HE.out (bstep hb1 hb)
     ·have HE := Lib.hid (HG.out (by omega))
      have HM := Lib.hid (partL_set (rdF P l) 0 l.length k (x % (P : Int)) HN.out)
      go_wp2
      go_roundg (gk - 1)
      case rel => exact ⟨k + 1, by have := HK.out; omega, by go_num, by rw [← HM.out]; exact blkI_set hO (by rw [partL_len]; exact hlt) _, hb.setCell (p := ⟨w1.heap.size, k, none⟩) (Nat.le_refl _) _, HE⟩
      case measure => have := HK.out; omega
    ·rw [partL_end _ _ _ _ (by omega)] at hO
     have HS := Lib.hid (show rdS (P : Int) l = (fullL (rdF P l) l.length, 0) by
      unfold rdS; rw [if_pos e1, if_neg hlen, any2_false (fun j hj => HA.out j (by omega))]; rfl)
     go_wp2
     go_ret2
     exact RetFE.own HS.out (fullL_len _ _) (blk_RI hO) (bstep hb1 hb)
 ·have c0 : (chkE p != 0) = true := by rw [e0]; rfl
  have HS := Lib.hid (show rdS p l = ([], chkE p) by unfold rdS; rw [e1, e0]; rfl)
  clear e0
  go_enter Tryz.func100, Tryz.ntmps100
  go_wp2_with fail
  refine (ringCheck_any _ _ hp1 hp2).mono ?_
  rintro _ w1 ⟨rfl, hb1⟩
  go_wp2
  go_ret2
  exact RetFE.no HS.out hb1
end Go.Proofs.YtelkokcnedbmeaaGreat
