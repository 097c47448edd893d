/-
  Contracts: fourier.Check, fringeref11.Check.
-/
import Derived.Test.YtdcacklochaljaaRingS
import Derived.Test.YtdcacklochaljaaGen
namespace Go.Proofs.Ytdcacklochaljaa
open Go.RowKit Num
set_option linter.unusedVariables false

noncomputable def chkL (p : Int) (l : List Int) : Int :=
  if okP p = true then (if l.length < 1 ∨ 64 < l.length then 4 else if (p - 1) % (l.length : Int) ≠ 0 then 6 else if l.any (fun x => decide (x < 0 ∨ p ≤ x)) = true then 8 else 0) else 2
/-- a valid list -/
structure Fit (P : Nat) (l : List Int) : Prop where
  pr : Pr P
  le : P ≤ 2000000000
  l1 : 1 ≤ l.length
  l64 : l.length ≤ 64
  dv : (P - 1) % l.length = 0
  el : ∀ j, j < l.length → 0 ≤ l.getD j 0 ∧ l.getD j 0 < P
theorem any_false {l : List Int} {p : Int} (h : ∀ j, j < l.length → 0 ≤ l.getD j 0 ∧ l.getD j 0 < p) : l.any (fun x => decide (x < 0 ∨ p ≤ x)) = false := by
  rw [List.any_eq_false]
  intro x hx
  obtain ⟨j, hj, e⟩ := List.getElem_of_mem hx
  have := h j hj
  rw [getD_lt _ _ hj, e] at this
  simp; omega
theorem any_true {l : List Int} {p : Int} {k : Nat} (hk : k < l.length) (h : l.getD k 0 < 0 ∨ p ≤ l.getD k 0) : l.any (fun x => decide (x < 0 ∨ p ≤ x)) = true := by
  rw [List.any_eq_true]
  rw [getD_lt _ _ hk] at h
  exact ⟨l[k], List.getElem_mem hk, by simpa using h⟩
theorem chkL_ok {P : Nat} {l : List Int} (h : Fit P l) : chkL (P : Int) l = 0 := by
  have h1 := h.l1
  have h2 := h.l64
  have h3 := h.pr.1
  unfold chkL
  rw [if_pos (okP_iff.2 ⟨P, rfl, h.pr.1, h.le, h.pr⟩), if_neg (by omega), if_neg (by rw [show (P : Int) - 1 = ((P - 1 : Nat) : Int) by omega, ← Int.natCast_emod, h.dv]; simp), any_false h.el]
  rfl
theorem chkL_cases (p : Int) (l : List Int) : (chkL p l = 0 ∧ ∃ P : Nat, p = P ∧ Fit P l) ∨ chkL p l ≠ 0 := by
  by_cases h0 : chkL p l = 0
  · left
    refine ⟨h0, ?_⟩
    unfold chkL at h0
    by_cases h1 : okP p = true
    · rw [if_pos h1] at h0
      obtain ⟨P, rfl, a, b, c⟩ := okP_iff.1 h1
      by_cases h2 : l.length < 1 ∨ 64 < l.length
      · rw [if_pos h2] at h0; omega
      · rw [if_neg h2] at h0
        by_cases h3 : ((P : Int) - 1) % (l.length : Int) ≠ 0
        · rw [if_pos h3] at h0; omega
        · rw [if_neg h3] at h0
          by_cases h4 : l.any (fun x => decide (x < 0 ∨ (P : Int) ≤ x)) = true
          · rw [if_pos h4] at h0; omega
          · refine ⟨P, rfl, c, b, by omega, by omega, ?_, ?_⟩
            · rw [show (P : Int) - 1 = ((P - 1 : Nat) : Int) by omega, ← Int.natCast_emod] at h3
              omega
            · intro j hj
              apply Classical.byContradiction
              intro hc
              exact h4 (any_true hj (by omega))
    · rw [if_neg h1] at h0; omega
  · exact Or.inr h0

set_option maxHeartbeats 1000000 in
theorem chkF_any (p : Int) (A : Option Addr) (c : Nat) (l : List Int) (w : World) (hx : RI .i64 w A l) (hl : l.length ≤ 9223372036854775807) (hp1 : -9223372036854775808 ≤ p) (hp2 : p ≤ 9223372036854775807) :
    Calls Try.prog 26 #[.int .i64 p, .slice A l.length c] w fun e w' => e = .returned (.int .i64 (chkL p l)) ∧ Below w.heap.size w w' := by
  rcases ok_cases p with ⟨e0, e1, P, rfl, h2, h3, hP⟩ | ⟨e0, e1⟩
  · have c0 : (chkE (P : Int) != 0) = false := by rw [e0]; rfl
    have HP := Lib.hid hP
    clear hP
    have eP : ((P - 1 : Nat) : Int) = (P : Int) - 1 := by omega
    rcases (show l.length < 1 ∨ (1 ≤ l.length ∧ 64 < l.length) ∨ (1 ≤ l.length ∧ l.length ≤ 64) by omega) with h | ⟨h, h'⟩ | ⟨h, h'⟩
    · have HE := Lib.hid (show chkL (P : Int) l = 4 by unfold chkL; rw [if_pos e1, if_pos (by omega)])
      go_enter Try.func26, Try.ntmps26
      go_wp2_with fail
      refine (ringCheck_any _ _ (by omega) (by omega)).mono ?_
      rintro _ w1 ⟨rfl, hb1⟩
      go_wp2
      go_ret
      exact ⟨ret_int HE.out.symm, hb1⟩
    · have HE := Lib.hid (show chkL (P : Int) l = 4 by unfold chkL; rw [if_pos e1, if_pos (by omega)])
      go_enter Try.func26, Try.ntmps26
      go_wp2_with fail
      refine (ringCheck_any _ _ (by omega) (by omega)).mono ?_
      rintro _ w1 ⟨rfl, hb1⟩
      go_wp2
      go_ret
      exact ⟨ret_int HE.out.symm, hb1⟩
    · have g0 : IntKind.i64.wrap ((P : Int) - 1) = ((P - 1 : Nat) : Int) := by rw [IntWalk.i64_in _ (by omega)]; omega
      have hz1 : ((l.length : Int) == 0) = false := by rw [beq_eq_false_iff_ne]; omega
      by_cases hm : (P - 1) % l.length = 0
      · have f1 : ((((P - 1) % l.length : Nat) : Int) != 0) = false := by rw [hm]; rfl
        have HM := Lib.hid (show ¬ ((P : Int) - 1) % (l.length : Int) ≠ 0 by rw [← eP, ← Int.natCast_emod, hm]; simp)
        clear hm eP
        go_enter Try.func26, Try.ntmps26
        go_wp2_with fail
        refine (ringCheck_any _ _ (by omega) (by omega)).mono ?_
        rintro _ w1 ⟨rfl, hb1⟩
        have hr := hx.keep hb1
        go_wp2
        (try clear f1)
        go_loopg [29] l.length (fun gk i wr => ∃ (k q : Nat), k + gk = l.length ∧ i = .int .i64 k ∧ wr = w1.drewN q ∧ Hid (∀ j, j < k → 0 ≤ l.getD j 0 ∧ l.getD j 0 < P))
        case atStart => exact ⟨0, 0, by omega, rfl, rfl, Lib.hid (by intro j hj; omega)⟩
        case round =>
          obtain ⟨k, q, hk, rfl, rfl, HA⟩ := hrel
          have hk' : k ≤ l.length := by omega
          have HK := Lib.hid hk
          clear hk
          by_cases hlt : k < l.length
          · obtain ⟨b1, off1, rfl, hlw1, hc1⟩ := hr.at2 hlt
            have HB := Lib.hid (fun (h : l.getD k 0 < 0 ∨ (P : Int) ≤ l.getD k 0) => show chkL (P : Int) l = 8 by
              unfold chkL; rw [if_pos e1, if_neg (by omega), if_neg HM.out, if_pos (any_true hlt h)])
            have HG := Lib.hid (fun (h : 0 ≤ l.getD k 0 ∧ l.getD k 0 < P) => show ∀ j, j < k + 1 → 0 ≤ l.getD j 0 ∧ l.getD j 0 < P from all_lt_succ HA.out h)
            generalize l.getD k 0 = x at *
            rcases (show x < 0 ∨ (0 ≤ x ∧ (P : Int) ≤ x) ∨ (0 ≤ x ∧ x < P) by omega) with hx1 | ⟨hx1, hx2⟩ | ⟨hx1, hx2⟩
            · have HE := Lib.hid (HB.out (by omega))
              have d1 : decide (x < 0) = true := decide_eq_true hx1
              go_wp2
              skip
              go_ret
              exact ⟨ret_int HE.out.symm, below_drewN hb1 _⟩
            · have HE := Lib.hid (HB.out (by omega))
              have d1 : decide (x < 0) = false := decide_eq_false (by omega)
              have d2 : decide ((P : Int) ≤ x) = true := decide_eq_true hx2
              go_wp2
              skip
              go_ret
              exact ⟨ret_int HE.out.symm, below_drewN hb1 _⟩
            · have HE := Lib.hid (HG.out (by omega))
              have d1 : decide (x < 0) = false := decide_eq_false (by omega)
              have d2 : decide ((P : Int) ≤ x) = false := decide_eq_false (by omega)
              go_wp2
              skip
              go_roundg (gk - 1)
              case rel => exact ⟨k + 1, _, by have := HK.out; omega, by go_num, rfl, HE⟩
              case measure => have := HK.out; omega
          · have HE := Lib.hid (show chkL (P : Int) l = 0 by
              unfold chkL; rw [if_pos e1, if_neg (by omega), if_neg HM.out, any_false (fun j hj => HA.out j (by omega))]; rfl)
            go_wp2
            go_ret
            exact ⟨ret_int HE.out.symm, below_drewN hb1 _⟩
      · have f1 : ((((P - 1) % l.length : Nat) : Int) != 0) = true := by rw [bne_iff_ne]; omega
        have HE := Lib.hid (show chkL (P : Int) l = 6 by unfold chkL; rw [if_pos e1, if_neg (by omega), if_pos (by rw [← eP, ← Int.natCast_emod]; omega)])
        clear hm eP
        go_enter Try.func26, Try.ntmps26
        go_wp2_with fail
        refine (ringCheck_any _ _ (by omega) (by omega)).mono ?_
        rintro _ w1 ⟨rfl, hb1⟩
        go_wp2
        go_ret
        exact ⟨ret_int HE.out.symm, hb1⟩
  · have c0 : (chkE p != 0) = true := by rw [e0]; rfl
    have HE := Lib.hid (show chkL p l = chkE p by unfold chkL; rw [e1, e0]; rfl)
    have HC := Lib.hid e0
    clear e0
    go_enter Try.func26, Try.ntmps26
    go_wp2_with fail
    refine (ringCheck_any _ _ hp1 hp2).mono ?_
    rintro _ w1 ⟨rfl, hb1⟩
    go_wp2
    go_ret
    first
      | exact ⟨ret_int HE.out.symm, hb1⟩
      | exact ⟨ret_int (HE.out.trans HC.out).symm, hb1⟩
set_option maxHeartbeats 1000000 in
theorem refChk_any (p : Int) (A : Option Addr) (c : Nat) (l : List Int) (w : World) (hx : RI .i64 w A l) (hl : l.length ≤ 9223372036854775807) (hp1 : -9223372036854775808 ≤ p) (hp2 : p ≤ 9223372036854775807) :
    Calls Try.prog 27 #[.int .i64 p, .slice A l.length c] w fun e w' => e = .returned (.int .i64 (chkL p l)) ∧ Below w.heap.size w w' := by
  rcases ok_cases p with ⟨e0, e1, P, rfl, h2, h3, hP⟩ | ⟨e0, e1⟩
  · have c0 : (chkE (P : Int) != 0) = false := by rw [e0]; rfl
    have HP := Lib.hid hP
    clear hP
    have eP : ((P - 1 : Nat) : Int) = (P : Int) - 1 := by omega
    rcases (show l.length < 1 ∨ (1 ≤ l.length ∧ 64 < l.length) ∨ (1 ≤ l.length ∧ l.length ≤ 64) by omega) with h | ⟨h, h'⟩ | ⟨h, h'⟩
    · have HE := Lib.hid (show chkL (P : Int) l = 4 by unfold chkL; rw [if_pos e1, if_pos (by omega)])
      go_enter Try.func27, Try.ntmps27
      go_wp2_with fail
      refine (refCheck_any _ _ (by omega) (by omega)).mono ?_
      rintro _ w1 ⟨rfl, hb1⟩
      go_wp2
      go_ret
      exact ⟨ret_int HE.out.symm, hb1⟩
    · have HE := Lib.hid (show chkL (P : Int) l = 4 by unfold chkL; rw [if_pos e1, if_pos (by omega)])
      go_enter Try.func27, Try.ntmps27
      go_wp2_with fail
      refine (refCheck_any _ _ (by omega) (by omega)).mono ?_
      rintro _ w1 ⟨rfl, hb1⟩
      go_wp2
      go_ret
      exact ⟨ret_int HE.out.symm, hb1⟩
    · have g0 : IntKind.i64.wrap ((P : Int) - 1) = ((P - 1 : Nat) : Int) := by rw [IntWalk.i64_in _ (by omega)]; omega
      have hz1 : ((l.length : Int) == 0) = false := by rw [beq_eq_false_iff_ne]; omega
      by_cases hm : (P - 1) % l.length = 0
      · have f1 : ((((P - 1) % l.length : Nat) : Int) != 0) = false := by rw [hm]; rfl
        have HM := Lib.hid (show ¬ ((P : Int) - 1) % (l.length : Int) ≠ 0 by rw [← eP, ← Int.natCast_emod, hm]; simp)
        clear hm eP
        go_enter Try.func27, Try.ntmps27
        go_wp2_with fail
        refine (refCheck_any _ _ (by omega) (by omega)).mono ?_
        rintro _ w1 ⟨rfl, hb1⟩
        have hr := hx.keep hb1
        go_wp2
        (try clear f1)
        go_loopg [5] l.length (fun gk i wr => ∃ (k q : Nat), k + gk = l.length ∧ i = .int .i64 k ∧ wr = w1.drewN q ∧ Hid (∀ j, j < k → 0 ≤ l.getD j 0 ∧ l.getD j 0 < P))
        case atStart => exact ⟨0, 0, by omega, rfl, rfl, Lib.hid (by intro j hj; omega)⟩
        case round =>
          obtain ⟨k, q, hk, rfl, rfl, HA⟩ := hrel
          have hk' : k ≤ l.length := by omega
          have HK := Lib.hid hk
          clear hk
          by_cases hlt : k < l.length
          · obtain ⟨b1, off1, rfl, hlw1, hc1⟩ := hr.at2 hlt
            have HB := Lib.hid (fun (h : l.getD k 0 < 0 ∨ (P : Int) ≤ l.getD k 0) => show chkL (P : Int) l = 8 by
              unfold chkL; rw [if_pos e1, if_neg (by omega), if_neg HM.out, if_pos (any_true hlt h)])
            have HG := Lib.hid (fun (h : 0 ≤ l.getD k 0 ∧ l.getD k 0 < P) => show ∀ j, j < k + 1 → 0 ≤ l.getD j 0 ∧ l.getD j 0 < P from all_lt_succ HA.out h)
            generalize l.getD k 0 = x at *
            rcases (show x < 0 ∨ (0 ≤ x ∧ (P : Int) ≤ x) ∨ (0 ≤ x ∧ x < P) by omega) with hx1 | ⟨hx1, hx2⟩ | ⟨hx1, hx2⟩
            · have HE := Lib.hid (HB.out (by omega))
              have d1 : decide (x < 0) = true := decide_eq_true hx1
              go_wp2
              skip
              go_ret
              exact ⟨ret_int HE.out.symm, below_drewN hb1 _⟩
            · have HE := Lib.hid (HB.out (by omega))
              have d1 : decide (x < 0) = false := decide_eq_false (by omega)
              have d2 : decide ((P : Int) ≤ x) = true := decide_eq_true hx2
              go_wp2
              skip
              go_ret
              exact ⟨ret_int HE.out.symm, below_drewN hb1 _⟩
            · have HE := Lib.hid (HG.out (by omega))
              have d1 : decide (x < 0) = false := decide_eq_false (by omega)
              have d2 : decide ((P : Int) ≤ x) = false := decide_eq_false (by omega)
              go_wp2
              skip
              go_roundg (gk - 1)
              case rel => exact ⟨k + 1, _, by have := HK.out; omega, by go_num, rfl, HE⟩
              case measure => have := HK.out; omega
          · have HE := Lib.hid (show chkL (P : Int) l = 0 by
              unfold chkL; rw [if_pos e1, if_neg (by omega), if_neg HM.out, any_false (fun j hj => HA.out j (by omega))]; rfl)
            go_wp2
            go_ret
            exact ⟨ret_int HE.out.symm, below_drewN hb1 _⟩
      · have f1 : ((((P - 1) % l.length : Nat) : Int) != 0) = true := by rw [bne_iff_ne]; omega
        have HE := Lib.hid (show chkL (P : Int) l = 6 by unfold chkL; rw [if_pos e1, if_neg (by omega), if_pos (by rw [← eP, ← Int.natCast_emod]; omega)])
        clear hm eP
        go_enter Try.func27, Try.ntmps27
        go_wp2_with fail
        refine (refCheck_any _ _ (by omega) (by omega)).mono ?_
        rintro _ w1 ⟨rfl, hb1⟩
        go_wp2
        go_ret
        exact ⟨ret_int HE.out.symm, hb1⟩
  · have c0 : (chkE p != 0) = true := by rw [e0]; rfl
    have HE := Lib.hid (show chkL p l = chkE p by unfold chkL; rw [e1, e0]; rfl)
    have HC := Lib.hid e0
    clear e0
    go_enter Try.func27, Try.ntmps27
    go_wp2_with fail
    refine (refCheck_any _ _ hp1 hp2).mono ?_
    rintro _ w1 ⟨rfl, hb1⟩
    go_wp2
    go_ret
    first
      | exact ⟨ret_int HE.out.symm, hb1⟩
      | exact ⟨ret_int (HE.out.trans HC.out).symm, hb1⟩
end Go.Proofs.Ytdcacklochaljaa
