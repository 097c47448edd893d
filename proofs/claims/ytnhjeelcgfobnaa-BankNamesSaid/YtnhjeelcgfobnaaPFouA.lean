/-
  Contracts: fourier.Check, fringeref11.Check.
  Contracts: fourier.powers, fourier.transform, fourier.within, fringeref11.at.
  Contracts: fourier.within, fringeref11.at, fringeref11.powers, fringeref11.root, fringeref11.sums.
-/
import Derived.Test.YtnhjeelcgfobnaaRingS
import Derived.Test.YtnhjeelcgfobnaaPRows
import Derived.Laws.AppendOwnNone
import Derived.OwnWalk
namespace Go.Proofs.Ytnhjeelcgfobnaa
open Go.RowKit Num
set_option maxRecDepth 8000
set_option linter.unusedVariables false

noncomputable def chkL (p : Int) (l : List Int) : Int :=
  if okP p = true then (if l.length < 1 ∨ 64 < l.length then 4 else if (p - 1) % (l.length : Int) ≠ 0 then 6 else if l.any (fun x => decide (x < 0 ∨ p ≤ x)) = true then 8 else 0) else 2
/-- a valid list -/
structure Fit (P : Nat) (l : List Int) : Prop where
  pr : Pr P
  le : P ≤ 2000000000
  l1 : 1 ≤ l.length
  l64 : l.length ≤ 64
  dv : (P - 1) % l.length = 0
  el : ∀ j, j < l.length → 0 ≤ l.getD j 0 ∧ l.getD j 0 < P
theorem any_false {l : List Int} {p : Int} (h : ∀ j, j < l.length → 0 ≤ l.getD j 0 ∧ l.getD j 0 < p) : l.any (fun x => decide (x < 0 ∨ p ≤ x)) = false := by
  rw [List.any_eq_false]
  intro x hx
  obtain ⟨j, hj, e⟩ := List.getElem_of_mem hx
  have := h j hj
  rw [getD_lt _ _ hj, e] at this
  simp; omega
theorem any_true {l : List Int} {p : Int} {k : Nat} (hk : k < l.length) (h : l.getD k 0 < 0 ∨ p ≤ l.getD k 0) : l.any (fun x => decide (x < 0 ∨ p ≤ x)) = true := by
  rw [List.any_eq_true]
  rw [getD_lt _ _ hk] at h
  exact ⟨l[k], List.getElem_mem hk, by simpa using h⟩
theorem chkL_ok {P : Nat} {l : List Int} (h : Fit P l) : chkL (P : Int) l = 0 := by
  have h1 := h.l1
  have h2 := h.l64
  have h3 := h.pr.1
  unfold chkL
  rw [if_pos (okP_iff.2 ⟨P, rfl, h.pr.1, h.le, h.pr⟩), if_neg (by omega), if_neg (by rw [show (P : Int) - 1 = ((P - 1 : Nat) : Int) by omega, ← Int.natCast_emod, h.dv]; simp), any_false h.el]
  rfl
theorem chkL_cases (p : Int) (l : List Int) : (chkL p l = 0 ∧ ∃ P : Nat, p = P ∧ Fit P l) ∨ chkL p l ≠ 0 := by
  by_cases h0 : chkL p l = 0
  · left
    refine ⟨h0, ?_⟩
    unfold chkL at h0
    by_cases h1 : okP p = true
    · rw [if_pos h1] at h0
      obtain ⟨P, rfl, a, b, c⟩ := okP_iff.1 h1
      by_cases h2 : l.length < 1 ∨ 64 < l.length
      · rw [if_pos h2] at h0; omega
      · rw [if_neg h2] at h0
        by_cases h3 : ((P : Int) - 1) % (l.length : Int) ≠ 0
        · rw [if_pos h3] at h0; omega
        · rw [if_neg h3] at h0
          by_cases h4 : l.any (fun x => decide (x < 0 ∨ (P : Int) ≤ x)) = true
          · rw [if_pos h4] at h0; omega
          · refine ⟨P, rfl, c, b, by omega, by omega, ?_, ?_⟩
            · rw [show (P : Int) - 1 = ((P - 1 : Nat) : Int) by omega, ← Int.natCast_emod] at h3
              omega
            · intro j hj
              apply Classical.byContradiction
              intro hc
              exact h4 (any_true hj (by omega))
    · rw [if_neg h1] at h0; omega
  · exact Or.inr h0

set_option maxHeartbeats 1000000 in
theorem chkF_any (p : Int) (A : Option Addr) (c : Nat) (l : List Int) (w : World) (hx : RI .i64 w A l) (hl : l.length ≤ 9223372036854775807) (hp1 : -9223372036854775808 ≤ p) (hp2 : p ≤ 9223372036854775807) :
    Calls Try.prog 52 #[.int .i64 p, .slice A l.length c] w fun e w' => e = .returned (.int .i64 (chkL p l)) ∧ Below w.heap.size w w' := by
  rcases ok_cases p with ⟨e0, e1, P, rfl, h2, h3, hP⟩ | ⟨e0, e1⟩
  · have c0 : (chkE (P : Int) != 0) = false := by rw [e0]; rfl
    have HP := Lib.hid hP
    clear hP
    have eP : ((P - 1 : Nat) : Int) = (P : Int) - 1 := by omega
    rcases (show l.length < 1 ∨ (1 ≤ l.length ∧ 64 < l.length) ∨ (1 ≤ l.length ∧ l.length ≤ 64) by omega) with h | ⟨h, h'⟩ | ⟨h, h'⟩
    · have HE := Lib.hid (show chkL (P : Int) l = 4 by unfold chkL; rw [if_pos e1, if_pos (by omega)])
      go_enter Try.func52, Try.ntmps52
      go_wp2_with fail
      refine (ringCheck_any _ _ (by omega) (by omega)).mono ?_
      rintro _ w1 ⟨rfl, hb1⟩
      go_wp2
      go_ret
      exact ⟨ret_int HE.out.symm, hb1⟩
    · have HE := Lib.hid (show chkL (P : Int) l = 4 by unfold chkL; rw [if_pos e1, if_pos (by omega)])
      go_enter Try.func52, Try.ntmps52
      go_wp2_with fail
      refine (ringCheck_any _ _ (by omega) (by omega)).mono ?_
      rintro _ w1 ⟨rfl, hb1⟩
      go_wp2
      go_ret
      exact ⟨ret_int HE.out.symm, hb1⟩
    · have g0 : IntKind.i64.wrap ((P : Int) - 1) = ((P - 1 : Nat) : Int) := by rw [IntWalk.i64_in _ (by omega)]; omega
      have hz1 : ((l.length : Int) == 0) = false := by rw [beq_eq_false_iff_ne]; omega
      by_cases hm : (P - 1) % l.length = 0
      · have f1 : ((((P - 1) % l.length : Nat) : Int) != 0) = false := by rw [hm]; rfl
        have HM := Lib.hid (show ¬ ((P : Int) - 1) % (l.length : Int) ≠ 0 by rw [← eP, ← Int.natCast_emod, hm]; simp)
        clear hm eP
        go_enter Try.func52, Try.ntmps52
        go_wp2_with fail
        refine (ringCheck_any _ _ (by omega) (by omega)).mono ?_
        rintro _ w1 ⟨rfl, hb1⟩
        have hr := hx.keep hb1
        go_wp2
        (try clear f1)
        go_loopg [29] l.length (fun gk i wr => ∃ (k q : Nat), k + gk = l.length ∧ i = .int .i64 k ∧ wr = w1.drewN q ∧ Hid (∀ j, j < k → 0 ≤ l.getD j 0 ∧ l.getD j 0 < P))
        case atStart => exact ⟨0, 0, by omega, rfl, rfl, Lib.hid (by intro j hj; omega)⟩
        case round =>
          obtain ⟨k, q, hk, rfl, rfl, HA⟩ := hrel
          have hk' : k ≤ l.length := by omega
          have HK := Lib.hid hk
          clear hk
          by_cases hlt : k < l.length
          · obtain ⟨b1, off1, rfl, hlw1, hc1⟩ := hr.at2 hlt
            have HB := Lib.hid (fun (h : l.getD k 0 < 0 ∨ (P : Int) ≤ l.getD k 0) => show chkL (P : Int) l = 8 by
              unfold chkL; rw [if_pos e1, if_neg (by omega), if_neg HM.out, if_pos (any_true hlt h)])
            have HG := Lib.hid (fun (h : 0 ≤ l.getD k 0 ∧ l.getD k 0 < P) => show ∀ j, j < k + 1 → 0 ≤ l.getD j 0 ∧ l.getD j 0 < P from all_lt_succ HA.out h)
            generalize l.getD k 0 = x at *
            rcases (show x < 0 ∨ (0 ≤ x ∧ (P : Int) ≤ x) ∨ (0 ≤ x ∧ x < P) by omega) with hx1 | ⟨hx1, hx2⟩ | ⟨hx1, hx2⟩
            · have HE := Lib.hid (HB.out (by omega))
              have d1 : decide (x < 0) = true := decide_eq_true hx1
              go_wp2
              skip
              go_ret
              exact ⟨ret_int HE.out.symm, below_drewN hb1 _⟩
            · have HE := Lib.hid (HB.out (by omega))
              have d1 : decide (x < 0) = false := decide_eq_false (by omega)
              have d2 : decide ((P : Int) ≤ x) = true := decide_eq_true hx2
              go_wp2
              skip
              go_ret
              exact ⟨ret_int HE.out.symm, below_drewN hb1 _⟩
            · have HE := Lib.hid (HG.out (by omega))
              have d1 : decide (x < 0) = false := decide_eq_false (by omega)
              have d2 : decide ((P : Int) ≤ x) = false := decide_eq_false (by omega)
              go_wp2
              skip
              go_roundg (gk - 1)
              case rel => exact ⟨k + 1, _, by have := HK.out; omega, by go_num, rfl, HE⟩
              case measure => have := HK.out; omega
          · have HE := Lib.hid (show chkL (P : Int) l = 0 by
              unfold chkL; rw [if_pos e1, if_neg (by omega), if_neg HM.out, any_false (fun j hj => HA.out j (by omega))]; rfl)
            go_wp2
            go_ret
            exact ⟨ret_int HE.out.symm, below_drewN hb1 _⟩
      · have f1 : ((((P - 1) % l.length : Nat) : Int) != 0) = true := by rw [bne_iff_ne]; omega
        have HE := Lib.hid (show chkL (P : Int) l = 6 by unfold chkL; rw [if_pos e1, if_neg (by omega), if_pos (by rw [← eP, ← Int.natCast_emod]; omega)])
        clear hm eP
        go_enter Try.func52, Try.ntmps52
        go_wp2_with fail
        refine (ringCheck_any _ _ (by omega) (by omega)).mono ?_
        rintro _ w1 ⟨rfl, hb1⟩
        go_wp2
        go_ret
        exact ⟨ret_int HE.out.symm, hb1⟩
  · have c0 : (chkE p != 0) = true := by rw [e0]; rfl
    have HE := Lib.hid (show chkL p l = chkE p by unfold chkL; rw [e1, e0]; rfl)
    have HC := Lib.hid e0
    clear e0
    go_enter Try.func52, Try.ntmps52
    go_wp2_with fail
    refine (ringCheck_any _ _ hp1 hp2).mono ?_
    rintro _ w1 ⟨rfl, hb1⟩
    go_wp2
    go_ret
    first
      | exact ⟨ret_int HE.out.symm, hb1⟩
      | exact ⟨ret_int (HE.out.trans HC.out).symm, hb1⟩
set_option maxHeartbeats 1000000 in
theorem refChk_any (p : Int) (A : Option Addr) (c : Nat) (l : List Int) (w : World) (hx : RI .i64 w A l) (hl : l.length ≤ 9223372036854775807) (hp1 : -9223372036854775808 ≤ p) (hp2 : p ≤ 9223372036854775807) :
    Calls Try.prog 60 #[.int .i64 p, .slice A l.length c] w fun e w' => e = .returned (.int .i64 (chkL p l)) ∧ Below w.heap.size w w' := by
  rcases ok_cases p with ⟨e0, e1, P, rfl, h2, h3, hP⟩ | ⟨e0, e1⟩
  · have c0 : (chkE (P : Int) != 0) = false := by rw [e0]; rfl
    have HP := Lib.hid hP
    clear hP
    have eP : ((P - 1 : Nat) : Int) = (P : Int) - 1 := by omega
    rcases (show l.length < 1 ∨ (1 ≤ l.length ∧ 64 < l.length) ∨ (1 ≤ l.length ∧ l.length ≤ 64) by omega) with h | ⟨h, h'⟩ | ⟨h, h'⟩
    · have HE := Lib.hid (show chkL (P : Int) l = 4 by unfold chkL; rw [if_pos e1, if_pos (by omega)])
      go_enter Try.func60, Try.ntmps60
      go_wp2_with fail
      refine (refCheck_any _ _ (by omega) (by omega)).mono ?_
      rintro _ w1 ⟨rfl, hb1⟩
      go_wp2
      go_ret
      exact ⟨ret_int HE.out.symm, hb1⟩
    · have HE := Lib.hid (show chkL (P : Int) l = 4 by unfold chkL; rw [if_pos e1, if_pos (by omega)])
      go_enter Try.func60, Try.ntmps60
      go_wp2_with fail
      refine (refCheck_any _ _ (by omega) (by omega)).mono ?_
      rintro _ w1 ⟨rfl, hb1⟩
      go_wp2
      go_ret
      exact ⟨ret_int HE.out.symm, hb1⟩
    · have g0 : IntKind.i64.wrap ((P : Int) - 1) = ((P - 1 : Nat) : Int) := by rw [IntWalk.i64_in _ (by omega)]; omega
      have hz1 : ((l.length : Int) == 0) = false := by rw [beq_eq_false_iff_ne]; omega
      by_cases hm : (P - 1) % l.length = 0
      · have f1 : ((((P - 1) % l.length : Nat) : Int) != 0) = false := by rw [hm]; rfl
        have HM := Lib.hid (show ¬ ((P : Int) - 1) % (l.length : Int) ≠ 0 by rw [← eP, ← Int.natCast_emod, hm]; simp)
        clear hm eP
        go_enter Try.func60, Try.ntmps60
        go_wp2_with fail
        refine (refCheck_any _ _ (by omega) (by omega)).mono ?_
        rintro _ w1 ⟨rfl, hb1⟩
        have hr := hx.keep hb1
        go_wp2
        (try clear f1)
        go_loopg [5] l.length (fun gk i wr => ∃ (k q : Nat), k + gk = l.length ∧ i = .int .i64 k ∧ wr = w1.drewN q ∧ Hid (∀ j, j < k → 0 ≤ l.getD j 0 ∧ l.getD j 0 < P))
        case atStart => exact ⟨0, 0, by omega, rfl, rfl, Lib.hid (by intro j hj; omega)⟩
        case round =>
          obtain ⟨k, q, hk, rfl, rfl, HA⟩ := hrel
          have hk' : k ≤ l.length := by omega
          have HK := Lib.hid hk
          clear hk
          by_cases hlt : k < l.length
          · obtain ⟨b1, off1, rfl, hlw1, hc1⟩ := hr.at2 hlt
            have HB := Lib.hid (fun (h : l.getD k 0 < 0 ∨ (P : Int) ≤ l.getD k 0) => show chkL (P : Int) l = 8 by
              unfold chkL; rw [if_pos e1, if_neg (by omega), if_neg HM.out, if_pos (any_true hlt h)])
            have HG := Lib.hid (fun (h : 0 ≤ l.getD k 0 ∧ l.getD k 0 < P) => show ∀ j, j < k + 1 → 0 ≤ l.getD j 0 ∧ l.getD j 0 < P from all_lt_succ HA.out h)
            generalize l.getD k 0 = x at *
            rcases (show x < 0 ∨ (0 ≤ x ∧ (P : Int) ≤ x) ∨ (0 ≤ x ∧ x < P) by omega) with hx1 | ⟨hx1, hx2⟩ | ⟨hx1, hx2⟩
            · have HE := Lib.hid (HB.out (by omega))
              have d1 : decide (x < 0) = true := decide_eq_true hx1
              go_wp2
              skip
              go_ret
              exact ⟨ret_int HE.out.symm, below_drewN hb1 _⟩
            · have HE := Lib.hid (HB.out (by omega))
              have d1 : decide (x < 0) = false := decide_eq_false (by omega)
              have d2 : decide ((P : Int) ≤ x) = true := decide_eq_true hx2
              go_wp2
              skip
              go_ret
              exact ⟨ret_int HE.out.symm, below_drewN hb1 _⟩
            · have HE := Lib.hid (HG.out (by omega))
              have d1 : decide (x < 0) = false := decide_eq_false (by omega)
              have d2 : decide ((P : Int) ≤ x) = false := decide_eq_false (by omega)
              go_wp2
              skip
              go_roundg (gk - 1)
              case rel => exact ⟨k + 1, _, by have := HK.out; omega, by go_num, rfl, HE⟩
              case measure => have := HK.out; omega
          · have HE := Lib.hid (show chkL (P : Int) l = 0 by
              unfold chkL; rw [if_pos e1, if_neg (by omega), if_neg HM.out, any_false (fun j hj => HA.out j (by omega))]; rfl)
            go_wp2
            go_ret
            exact ⟨ret_int HE.out.symm, below_drewN hb1 _⟩
      · have f1 : ((((P - 1) % l.length : Nat) : Int) != 0) = true := by rw [bne_iff_ne]; omega
        have HE := Lib.hid (show chkL (P : Int) l = 6 by unfold chkL; rw [if_pos e1, if_neg (by omega), if_pos (by rw [← eP, ← Int.natCast_emod]; omega)])
        clear hm eP
        go_enter Try.func60, Try.ntmps60
        go_wp2_with fail
        refine (refCheck_any _ _ (by omega) (by omega)).mono ?_
        rintro _ w1 ⟨rfl, hb1⟩
        go_wp2
        go_ret
        exact ⟨ret_int HE.out.symm, hb1⟩
  · have c0 : (chkE p != 0) = true := by rw [e0]; rfl
    have HE := Lib.hid (show chkL p l = chkE p by unfold chkL; rw [e1, e0]; rfl)
    have HC := Lib.hid e0
    clear e0
    go_enter Try.func60, Try.ntmps60
    go_wp2_with fail
    refine (refCheck_any _ _ hp1 hp2).mono ?_
    rintro _ w1 ⟨rfl, hb1⟩
    go_wp2
    go_ret
    first
      | exact ⟨ret_int HE.out.symm, hb1⟩
      | exact ⟨ret_int (HE.out.trans HC.out).symm, hb1⟩
end Go.Proofs.Ytnhjeelcgfobnaa
namespace Go.Proofs.Ytnhjeelcgfobnaa
open Go.RowKit Num
set_option maxRecDepth 8000
set_option linter.unusedVariables false

def pwF (P R : Nat) (j : Nat) : Int := ((R ^ j % P : Nat) : Int)
theorem pwF_bd {P R : Nat} (h : 0 < P) (j : Nat) : 0 ≤ pwF P R j ∧ pwF P R j < P := by
  unfold pwF
  have := Nat.mod_lt (R ^ j) h
  omega
/-- a new slice of numbers -/
def RetK (w : World) (l : List Int) (e : Ending) (w' : World) : Prop :=
  ∃ g, e = .returned (.slice (some ⟨g, 0, none⟩) l.length l.length) ∧ w.heap.size ≤ g ∧ Blk w' g 2 (l.flatMap (encI .i64)).toArray ∧ Below w.heap.size w w'

theorem powers_any (P R n : Nat) (w : World) (hP : 2 ≤ P) (hP2 : P ≤ 2000000000) (hR : R < P) (hn : n ≤ 1000) :
    Calls Try.prog 56 #[.int .i64 P, .int .i64 R, .int .i64 n] w (RetK w (fullL (pwF P R) n)) := by
  obtain ⟨i0, hi0, hz0, hz1, hz2⟩ := info_int64
  have hmk := mk_row (P := Try.prog) 31 2 Try.underlying31 hi0 hz0 hz1 hz2 (encI .i64) (encI_len .i64) (by omega) 0 rfl n (by omega) (by omega)
  go_enter Try.func56, Try.ntmps56
  go_wp2
  go_loopg [8, 14] n (fun gk x i wr => ∃ (k X : Nat), k + gk = n ∧ x = .int .i64 X ∧ i = .int .i64 k ∧ X < P ∧ Hid (X = R ^ k % P) ∧ Blk wr w.heap.size 2 ((partL (pwF P R) 0 n k).flatMap (encI .i64)).toArray ∧ Below w.heap.size w wr)
  case atStart => exact ⟨0, 1, by omega, rfl, rfl, by omega, Lib.hid (by rw [Nat.pow_zero]; exact (Nat.mod_eq_of_lt (by omega)).symm), by rw [partL_start]; exact Blk.new w 2 _, balloc (Below.refl _ _) _⟩
  case round =>
    obtain ⟨k, X, hk, rfl, rfl, hX, HX, hO, hb⟩ := hrel
    have hk' : k ≤ n := by omega
    have HK := Lib.hid hk
    clear hk hmk
    by_cases hlt : k < n
    · have f1 := mul_wrap (x := X) (y := R) (by omega) (by omega)
      have o0 := blkI_at hO (j := k) (by rw [partL_len]; exact hlt)
      have of0 := hO.frozen k
      have hgl := hO.lt
      have HX2 := Lib.hid (show X * R % P = R ^ (k + 1) % P by rw [HX.out, Nat.pow_succ, Nat.mod_mul_mod])
      have HS := Lib.hid (partL_set (pwF P R) 0 n k (X : Int) (by unfold pwF; rw [← HX.out]))
      go_wp2
      go_roundg (gk - 1)
      case rel => exact ⟨k + 1, X * R % P, by have := HK.out; omega, rfl, by go_num, Nat.mod_lt _ (by omega), HX2, by rw [← HS.out]; exact blkI_set hO (by rw [partL_len]; exact hlt) _, hb.setCell (p := ⟨w.heap.size, k, none⟩) (Nat.le_refl _) _⟩
      case measure => have := HK.out; omega
    · rw [partL_end _ _ _ _ (by omega)] at hO
      go_wp2
      go_ret
      exact ⟨_, by rw [fullL_len]; rfl, Nat.le_refl _, hO, hb⟩

/-- the sum of f 0 to f (n - 1), reduced at each step -/
def sumM (p : Int) (f : Nat → Int) : Nat → Int
  | 0 => 0
  | j + 1 => (sumM p f j + f j) % p
theorem sumM_bd {p : Int} (hp : 0 < p) (f : Nat → Int) (n : Nat) : 0 ≤ sumM p f n ∧ sumM p f n < p := by
  cases n with
  | zero => exact ⟨Int.le_refl 0, hp⟩
  | succ n => exact ⟨Int.emod_nonneg _ (by omega), Int.emod_lt_of_pos _ hp⟩
theorem sumM_congr {p : Int} {f g : Nat → Int} {n : Nat} (h : ∀ j, j < n → f j = g j) : sumM p f n = sumM p g n := by
  induction n with
  | zero => rfl
  | succ n ih => show (sumM p f n + f n) % p = (sumM p g n + g n) % p; rw [ih (fun j hj => h j (by omega)), h n (by omega)]
/-- the k-th number of a transform with the list pw of powers -/
def trF (P : Nat) (l : List Int) (pw : Nat → Int) (k : Nat) : Int := sumM (P : Int) (fun j => l.getD j 0 * pw (j * k % l.length)) l.length
theorem fit_mul {P : Nat} {x y s : Int} (hP : P ≤ 2000000000) (hx : 0 ≤ x ∧ x < P) (hy : 0 ≤ y ∧ y < P) : 0 ≤ x * y ∧ x * y ≤ 4000000000000000000 := by
  have h1 : 0 ≤ x * y := Int.mul_nonneg hx.1 hy.1
  have h2 : x * y ≤ (2000000000 : Int) * 2000000000 := Int.mul_le_mul (by omega) (by omega) hy.1 (by omega)
  exact ⟨h1, by omega⟩

theorem partL_zero {f : Nat → Int} {n k : Nat} (h : k < n) : (partL f 0 n k).set k 0 = partL f 0 n k := by
  apply List.ext_getElem (by simp [partL])
  intro i h1 h2
  simp only [partL, List.getElem_set, List.getElem_map, List.getElem_range]
  by_cases e : k = i
  · subst e; rw [if_pos rfl, if_neg (by omega)]
  · rw [if_neg e]
set_option maxHeartbeats 1000000 in
theorem transform_any (P : Nat) (A B : Option Addr) (c d : Nat) (l : List Int) (pw : Nat → Int) (w : World) (hP : 2 ≤ P) (hP2 : P ≤ 2000000000) (hx : RI .i64 w A l) (hy : RI .i64 w B (fullL pw l.length)) (h1 : 1 ≤ l.length) (hl : l.length ≤ 64)
    (hb1 : ∀ j, j < l.length → 0 ≤ l.getD j 0 ∧ l.getD j 0 < P) (hb2 : ∀ j, j < l.length → 0 ≤ pw j ∧ pw j < P) :
    Calls Try.prog 55 #[.int .i64 P, .slice A l.length c, .slice B l.length d] w (RetK w (fullL (trF P l pw) l.length)) := by
  obtain ⟨i0, hi0, hz0, hz1, hz2⟩ := info_int64
  have hmk := mk_row (P := Try.prog) 31 2 Try.underlying31 hi0 hz0 hz1 hz2 (encI .i64) (encI_len .i64) (by omega) 0 rfl l.length (by omega) (by omega)
  have HB1 := Lib.hid hb1
  have HB2 := Lib.hid hb2
  clear hb1 hb2
  go_enter Try.func55, Try.ntmps55
  go_wp2
  go_loopg [16] l.length (fun gk i wr => ∃ (k : Nat), k + gk = l.length ∧ i = .int .i64 k ∧ Blk wr w.heap.size 2 ((partL (trF P l pw) 0 l.length k).flatMap (encI .i64)).toArray ∧ Below w.heap.size w wr)
  case atStart => exact ⟨0, by omega, rfl, by rw [partL_start]; exact Blk.new w 2 _, balloc (Below.refl _ _) _⟩
  case round =>
    obtain ⟨k, hk, rfl, hO, hb⟩ := hrel
    have hk' : k ≤ l.length := by omega
    have HK := Lib.hid hk
    clear hk hmk
    by_cases hlt : k < l.length
    · obtain ⟨gu, hgu⟩ : ∃ gu, gu = gk := ⟨gk, rfl⟩
      have HGU := Lib.hid hgu
      clear hgu
      go_wp2
      go_loopg [21] l.length (fun gk i wr => ∃ (j : Nat) (s : Int), j + gk = l.length ∧ i = .int .i64 j ∧ 0 ≤ s ∧ s < P ∧ Hid (s = sumM (P : Int) (fun j => l.getD j 0 * pw (j * k % l.length)) j) ∧ Blk wr w.heap.size 2 (((partL (trF P l pw) 0 l.length k).set k s).flatMap (encI .i64)).toArray ∧ Below w.heap.size w wr)
      case atStart => exact ⟨0, 0, by omega, rfl, by omega, by omega, Lib.hid rfl, by rw [show (partL (trF P l pw) 0 l.length k).set k 0 = partL (trF P l pw) 0 l.length k from partL_zero hlt]; exact hO, hb⟩
      case round =>
        obtain ⟨j, s, hj, rfl, hs1, hs2, HS, hO2, hb2⟩ := hrel
        have hj' : j ≤ l.length := by omega
        have HJ := Lib.hid hj
        clear hj
        by_cases hlt2 : j < l.length
        · obtain ⟨b1, off1, rfl, hlw1, hc1⟩ := (hx.keep hb2).at2 hlt2
          have hm : j * k % l.length < l.length := Nat.mod_lt _ (by omega)
          have hjk : j * k ≤ 64 * 64 := Nat.mul_le_mul (by omega) (by omega)
          obtain ⟨b2, off2, rfl, hlw2, hc2⟩ := (hy.keep hb2).at2 (i := j * k % l.length) (by rw [fullL_len]; exact hm)
          rw [fullL_getD _ _ _ _ hm] at hc2
          have bx := HB1.out j hlt2
          have by' := HB2.out _ hm
          have HN := Lib.hid (show sumM (P : Int) (fun j => l.getD j 0 * pw (j * k % l.length)) (j + 1) = (s + l.getD j 0 * pw (j * k % l.length)) % P by rw [HS.out]; rfl)
          have o0 := blkI_at hO2 (j := k) (by rw [List.length_set, partL_len]; exact hlt)
          rw [getD_lt _ _ (by rw [List.length_set, partL_len]; exact hlt), List.getElem_set_self] at o0
          have of0 := hO2.frozen k
          have hgl := hO2.lt
          have hw1 : IntKind.i64.wrap ((j : Int) * (k : Int)) = ((j * k : Nat) : Int) := mul_wrap (by omega) (by omega)
          generalize j * k = jk at *
          generalize hM : jk % l.length = m at *
          have hM2 : (jk : Int) % (l.length : Int) = (m : Int) := by rw [← Int.natCast_emod, hM]
          clear hM
          generalize l.getD j 0 = X at *
          generalize pw m = Y at *
          have fm := fit_mul (s := s) hP2 bx by'
          obtain ⟨Z, hZ⟩ : ∃ Z, Z = X * Y := ⟨_, rfl⟩
          have hw2 : IntKind.i64.wrap (X * Y) = Z := by rw [IntWalk.i64_in _ (by omega), hZ]
          rw [← hZ] at HN fm
          clear hZ
          have hpos : 0 < (P : Int) := by omega
          have r1 := Int.emod_nonneg (s + Z) (show (P : Int) ≠ 0 by omega)
          have r2 := Int.emod_lt_of_pos (s + Z) hpos
          have HI := Lib.hid (blkI_set hO2 (by rw [List.length_set, partL_len]; exact hlt) ((s + Z) % P))
          go_wp2
          all_goals
            go_region
            all_goals go_wp2
            all_goals
              go_roundg (gk - 1)
              case rel => exact ⟨j + 1, (s + Z) % P, by have := HJ.out; omega, by go_num, r1, r2, Lib.hid HN.out.symm, by have h := HI.out; rw [List.set_set] at h; exact h, (hb2.setCell (p := ⟨w.heap.size, k, none⟩) (Nat.le_refl _) _).drew⟩
              case measure => have := HJ.out; omega
        · have hfin : s = trF P l pw k := by rw [HS.out, show j = l.length by omega]; rfl
          rw [partL_set _ _ _ _ _ hfin] at hO2
          clear hfin
          go_wp2
          go_roundg (gu - 1)
          case rel => exact ⟨k + 1, by have := HK.out; have := HGU.out; omega, by go_num, hO2, hb2⟩
          case measure => have := HK.out; have := HGU.out; omega
    · rw [partL_end _ _ _ _ (by omega)] at hO
      go_wp2
      go_ret
      exact ⟨_, by rw [fullL_len]; rfl, Nat.le_refl _, hO, hb⟩
end Go.Proofs.Ytnhjeelcgfobnaa
namespace Go.Proofs.Ytnhjeelcgfobnaa
open Go.RowKit Num
set_option maxRecDepth 8000
set_option linter.unusedVariables false

theorem tmod_bd (d : Int) {n : Nat} (h : 1 ≤ n) : -(n : Int) < d.tmod n ∧ d.tmod n < n := ⟨Int.lt_tmod_of_pos d (by omega), Int.tmod_lt_of_pos d (by omega)⟩
theorem tmod_cases (d : Int) {n : Nat} (h : 1 ≤ n) : (0 ≤ d.tmod n ∧ d.tmod n = d % n) ∨ (d.tmod n < 0 ∧ d.tmod n + n = d % n) := by
  have hb := tmod_bd d h
  have h2 := Int.mul_tdiv_add_tmod d n
  rcases (show 0 ≤ d.tmod n ∨ d.tmod n < 0 by omega) with h0 | h0
  · left
    refine ⟨h0, ?_⟩
    generalize d.tmod n = r at *
    rw [← h2, Int.add_comm, Int.add_mul_emod_self_left, Int.emod_eq_of_lt h0 hb.2]
  · right
    refine ⟨h0, ?_⟩
    generalize d.tmod n = r at *
    have e : d = (r + n) + n * (d.tdiv n - 1) := by rw [Int.mul_sub, Int.mul_one]; omega
    generalize d.tdiv n = t at *
    rw [e, Int.add_mul_emod_self_left, Int.emod_eq_of_lt (by omega) (by omega)]
theorem emod_bd (d : Int) {n : Nat} (h : 1 ≤ n) : 0 ≤ d % n ∧ d % n < n := ⟨Int.emod_nonneg _ (by omega), Int.emod_lt_of_pos _ (by omega)⟩

theorem at_any (d : Int) (n : Nat) (w : World) (h1 : 1 ≤ n) (h2 : n ≤ 1000) (hd : -9223372036854775808 ≤ d ∧ d ≤ 9223372036854775807) :
    Calls Try.prog 62 #[.int .i64 d, .int .i64 n] w fun e w' => e = .returned (.int .i64 (d % n)) ∧ w = w' := by
  have hz1 : ((n : Int) == 0) = false := by rw [beq_eq_false_iff_ne]; omega
  have hb := tmod_bd d h1
  rcases tmod_cases d h1 with ⟨a, b⟩ | ⟨a, b⟩
  · have HB := Lib.hid b
    clear b
    have f1 : decide (d.tmod n < 0) = false := decide_eq_false (by omega)
    go_enter Try.func62, Try.ntmps62
    go_wp2
    go_ret
    exact ⟨ret_int HB.out, rfl⟩
  · have HB := Lib.hid b
    clear b
    have f1 : decide (d.tmod n < 0) = true := decide_eq_true (by omega)
    go_enter Try.func62, Try.ntmps62
    go_wp2
    go_ret
    exact ⟨ret_int HB.out, rfl⟩
theorem within_any (d : Int) (n : Nat) (w : World) (h1 : 1 ≤ n) (h2 : n ≤ 1000) (hd : -9223372036854775808 ≤ d ∧ d ≤ 9223372036854775807) :
    Calls Try.prog 58 #[.int .i64 d, .int .i64 n] w fun e w' => e = .returned (.int .i64 (d % n)) ∧ w = w' := by
  have hz1 : ((n : Int) == 0) = false := by rw [beq_eq_false_iff_ne]; omega
  have hb := tmod_bd d h1
  have he := emod_bd d h1
  have HR := Lib.hid (show (d.tmod n + n) % (n : Int) = d % n by
    rcases tmod_cases d h1 with ⟨a, b⟩ | ⟨a, b⟩
    · rw [b, Int.add_emod_right]; exact Int.emod_emod _ _
    · rw [b]; exact Int.emod_emod _ _)
  go_enter Try.func58, Try.ntmps58
  go_wp2
  go_ret
  exact ⟨ret_int HR.out, rfl⟩

/-- a row of the call's own -/
def RetO (w : World) (l : List Int) (e : Ending) (w' : World) : Prop :=
  ∃ A c, e = .returned (.slice A l.length c) ∧ l.length ≤ c ∧ w'.ownsRow w.heap.size 2 1 (.slice A l.length c) l.length (l.flatMap (encI .i64)) ∧ Below w.heap.size w w'

theorem refPowers_any (P R n : Nat) (w : World) (hP : 2 ≤ P) (hP2 : P ≤ 2000000000) (hR : R < P) (h1 : 1 ≤ n) (hn : n ≤ 1000) :
    Calls Try.prog 74 #[.int .i64 P, .int .i64 R, .int .i64 n] w (RetO w (fullL (pwF P R) n)) := by
  obtain ⟨i0, hi0, hz0, hz1, hz2⟩ := info_int64
  have hown0 : (w.alloc (.cells #[.int .i64 1] 2)).ownsRow w.heap.size 2 1 (.slice (some ⟨w.heap.size, 0, none⟩) 1 1) 1 ((fullL (pwF P R) 1).flatMap (encI .i64)) := by
    have h := own_blk (size := 1) (n := 1) (Blk.new w 2 #[.int .i64 1]) (Nat.le_refl _) (by simp) (by unfold maxLen; omega)
    have e : (fullL (pwF P R) 1).flatMap (encI .i64) = [.int .i64 1] := by
      rw [fullL_succ, fullL_zero]
      show [Value.int .i64 (pwF P R 0)] = _
      unfold pwF
      rw [Nat.pow_zero, Nat.mod_eq_of_lt (by omega)]; rfl
    rw [e]
    simpa using h
  go_enter Try.func74, Try.ntmps74
  go_wp2
  go_loopg [7] (n - 1) (fun gk v wr => ∃ (k : Nat), k + gk = n ∧ 1 ≤ k ∧ wr.ownsRow w.heap.size 2 1 v k ((fullL (pwF P R) k).flatMap (encI .i64)) ∧ Below w.heap.size w wr)
  case atStart => exact ⟨1, by omega, by omega, hown0, balloc (Below.refl _ _) _⟩
  case round =>
    obtain ⟨k, hk, hk1, hO, hb⟩ := hrel
    have hk' : k ≤ n := by omega
    have HK := Lib.hid hk
    clear hk hown0
    have hsz := hb.size
    obtain ⟨A8, c8, rfl, hc8⟩ := own_shape' hO
    by_cases hlt : k < n
    · obtain ⟨g8, rfl, hg8, hg9⟩ := own_some hO (by omega)
      have o1 := own_at (encI_len .i64) (l := fullL (pwF P R) k) (by rw [fullL_len]; exact hO) (j := k - 1) (i := 0) (by rw [fullL_len]; omega) (by omega)
      simp only [encI, List.getElem?_cons_zero, Nat.mul_one, Nat.add_zero, fullL_get] at o1
      have hbd := pwF_bd (P := P) (R := R) (by omega) (k - 1)
      have HX := Lib.hid (show ((pwF P R (k - 1)).toNat * R % P : Nat) = R ^ k % P by
        unfold pwF
        rw [Int.toNat_natCast, Nat.mod_mul_mod, ← Nat.pow_succ, show (k - 1).succ = k by omega])
      obtain ⟨X, hX⟩ : ∃ X : Nat, pwF P R (k - 1) = X := ⟨(pwF P R (k - 1)).toNat, by omega⟩
      rw [hX] at o1 hbd HX
      rw [Int.toNat_natCast] at HX
      clear hX
      have f1 := mul_wrap (x := X) (y := R) (by omega) (by omega)
      have f2 : IntKind.i64.wrap ((k : Int) - 1) = (k : Int) - 1 := IntWalk.i64_in _ (by omega)
      have f3 : ((k : Int) - 1).toNat = k - 1 := by omega
      have f4 : 0 ≤ (k : Int) - 1 := by omega
      have f5 : (k : Int) - 1 < k := by omega
      have f6 : 1 ≤ (k : Int) := by omega
      go_wp2_with (at_builtin; refine wpList_append_own _ rfl _ _ 31 rfl w.heap.size 2 i0 _ 1 8 Try.underlying31 hi0 hz0 hz1 hz2 rfl (by decide) _ k _ rfl (hO.alloc _) ⟨wr.heap.size, 0, none⟩ 1 1 (encI .i64 ((X * R % P : Nat) : Int)) rfl rfl (encI_news _ _ _ _) (encI_one _ _) (by unfold maxLen; omega) (by omega) (by simp; omega) ?_; intro v2 w2 hown2 hgrow2 _)
      go_roundg (gk - 1)
      case rel => exact ⟨k + 1, by have := HK.out; omega, by omega, by rw [fullL_succ, flat_snoc, show pwF P R k = ((X * R % P : Nat) : Int) by unfold pwF; rw [HX.out]]; exact hown2, own_below (hb.alloc hsz _) (hO.alloc _) hgrow2 (Nat.le_refl _) (by simp; omega)⟩
      case measure => have := HK.out; omega
    · obtain rfl : k = n := by omega
      go_wp2
      go_ret
      exact ⟨A8, c8, by rw [fullL_len]; rfl, by rw [fullL_len]; exact hc8, by rw [fullL_len]; exact hO, hb⟩
end Go.Proofs.Ytnhjeelcgfobnaa
