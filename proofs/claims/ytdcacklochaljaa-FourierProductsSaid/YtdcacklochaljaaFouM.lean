/-
  Contract: fringelaw11.fit. FourierSigns.
-/
import Derived.Test.YtdcacklochaljaaFouL
import Derived.Test.YtdcacklochaljaaFouH
namespace Go.Proofs.Ytdcacklochaljaa
open Go.RowKit Num
set_option linter.unusedVariables false

noncomputable def fitB (p : Int) (a b : List Int) : Bool := decide (chkL p a = 0 ∧ chkL p b = 0 ∧ a.length = b.length)
theorem fitB_cases (p : Int) (a b : List Int) : (fitB p a b = true ∧ ∃ P : Nat, p = P ∧ Fit P a ∧ Fit P b ∧ a.length = b.length) ∨ fitB p a b = false := by
  by_cases h : chkL p a = 0 ∧ chkL p b = 0 ∧ a.length = b.length
  · left
    refine ⟨by unfold fitB; rw [decide_eq_true h], ?_⟩
    obtain ⟨e0, e1, hl⟩ := h
    obtain ⟨P, rfl, hFA⟩ : ∃ P : Nat, p = P ∧ Fit P a := (chkL_cases p a).elim (fun h => h.2) (fun h => absurd e0 h)
    obtain ⟨P', eP, hFB⟩ : ∃ P' : Nat, (P : Int) = P' ∧ Fit P' b := (chkL_cases (P : Int) b).elim (fun h => h.2) (fun h => absurd e1 h)
    obtain rfl : P = P' := by omega
    exact ⟨P, rfl, hFA, hFB, hl⟩
  · right; unfold fitB; rw [decide_eq_false h]
theorem chkL_len {p : Int} {l : List Int} (h : chkL p l = 0) : l.length ≤ 64 := by
  rcases chkL_cases p l with ⟨_, P, _, hF⟩ | h'
  · exact hF.l64
  · exact absurd h h'
theorem fit11_any (p : Int) (A B : Option Addr) (c d : Nat) (a b : List Int) (w : World) (hx : RI .i64 w A a) (hy : RI .i64 w B b) (hl : a.length ≤ 9223372036854775807) (hl2 : b.length ≤ 9223372036854775807) (hp1 : -9223372036854775808 ≤ p) (hp2 : p ≤ 9223372036854775807) :
    Calls Try.prog 28 #[.int .i64 p, .slice A a.length c, .slice B b.length d] w fun e w' => e = .returned (.bool (fitB p a b)) ∧ Below w.heap.size w w' := by
  by_cases h1 : a.length ≤ 70
  · have d1 : decide (70 < a.length) = false := decide_eq_false (by omega)
    by_cases h2 : b.length ≤ 70
    · have d2 : decide (70 < b.length) = false := decide_eq_false (by omega)
      by_cases hb0 : bothL p a b = 0
      · have c0 : (bothL p a b == 0) = true := by rw [hb0]; rfl
        have e0 : chkL p a = 0 := by unfold bothL at hb0; by_cases h : chkL p a = 0; exact h; rw [if_neg h] at hb0; exact hb0
        have e1 : chkL p b = 0 := by unfold bothL at hb0; rw [if_pos e0] at hb0; exact hb0
        have HE := Lib.hid (show fitB p a b = decide (a.length = b.length) by unfold fitB; rw [Bool.eq_iff_iff, decide_eq_true_eq, decide_eq_true_eq]; exact ⟨fun h => h.2.2, fun h => ⟨e0, e1, h⟩⟩)
        clear hb0 e0 e1
        by_cases hlen : a.length = b.length
        · have c1 : ((a.length : Int) == (b.length : Int)) = true := by rw [hlen]; simp
          have HT := Lib.hid (HE.out.trans (decide_eq_true hlen))
          clear hlen HE
          go_enter Try.func28, Try.ntmps28
          go_wp2_with fail
          refine (great11_any _ _ _ _ hl).mono ?_
          rintro _ _ ⟨rfl, rfl⟩
          go_wp2_with fail
          refine (great11_any _ _ _ _ hl2).mono ?_
          rintro _ _ ⟨rfl, rfl⟩
          go_wp2_with fail
          refine (both11_any _ _ _ _ _ _ _ _ hx hy hl hl2 hp1 hp2).mono ?_
          rintro _ w1 ⟨rfl, hb1⟩
          go_wp2
          go_ret
          exact ⟨ret_bool HT.out.symm, hb1⟩
        · have c1 : ((a.length : Int) == (b.length : Int)) = false := by rw [beq_eq_false_iff_ne]; omega
          have HT := Lib.hid (HE.out.trans (decide_eq_false hlen))
          clear hlen HE
          go_enter Try.func28, Try.ntmps28
          go_wp2_with fail
          refine (great11_any _ _ _ _ hl).mono ?_
          rintro _ _ ⟨rfl, rfl⟩
          go_wp2_with fail
          refine (great11_any _ _ _ _ hl2).mono ?_
          rintro _ _ ⟨rfl, rfl⟩
          go_wp2_with fail
          refine (both11_any _ _ _ _ _ _ _ _ hx hy hl hl2 hp1 hp2).mono ?_
          rintro _ w1 ⟨rfl, hb1⟩
          go_wp2
          go_ret
          exact ⟨ret_bool HT.out.symm, hb1⟩
      · have c0 : (bothL p a b == 0) = false := by rw [beq_eq_false_iff_ne]; exact hb0
        have HT := Lib.hid (show fitB p a b = false by
          unfold fitB
          refine decide_eq_false (fun h => hb0 ?_)
          unfold bothL; rw [if_pos h.1]; exact h.2.1)
        clear hb0
        go_enter Try.func28, Try.ntmps28
        go_wp2_with fail
        refine (great11_any _ _ _ _ hl).mono ?_
        rintro _ _ ⟨rfl, rfl⟩
        go_wp2_with fail
        refine (great11_any _ _ _ _ hl2).mono ?_
        rintro _ _ ⟨rfl, rfl⟩
        go_wp2_with fail
        refine (both11_any _ _ _ _ _ _ _ _ hx hy hl hl2 hp1 hp2).mono ?_
        rintro _ w1 ⟨rfl, hb1⟩
        go_wp2
        go_ret
        exact ⟨ret_bool HT.out.symm, hb1⟩
    · have d2 : decide (70 < b.length) = true := decide_eq_true (by omega)
      have HT := Lib.hid (show fitB p a b = false by unfold fitB; exact decide_eq_false (fun h => by have := chkL_len h.2.1; omega))
      go_enter Try.func28, Try.ntmps28
      go_wp2_with fail
      refine (great11_any _ _ _ _ hl).mono ?_
      rintro _ _ ⟨rfl, rfl⟩
      go_wp2_with fail
      refine (great11_any _ _ _ _ hl2).mono ?_
      rintro _ _ ⟨rfl, rfl⟩
      go_wp2
      go_ret
      exact ⟨ret_bool HT.out.symm, Below.refl _ _⟩
  · have d1 : decide (70 < a.length) = true := decide_eq_true (by omega)
    have HT := Lib.hid (show fitB p a b = false by unfold fitB; exact decide_eq_false (fun h => by have := chkL_len h.1; omega))
    go_enter Try.func28, Try.ntmps28
    go_wp2_with fail
    refine (great11_any _ _ _ _ hl).mono ?_
    rintro _ _ ⟨rfl, rfl⟩
    go_wp2
    go_ret
    exact ⟨ret_bool HT.out.symm, Below.refl _ _⟩

theorem sg_bd {P : Nat} {l : List Int} (h : Fit P l) {k : Nat} (hk : k < l.length) : -(P : Int) ≤ sgF P l k ∧ 2 * sgF P l k ≤ P ∧ -2 * sgF P l k < P ∧ sgF P l k % (P : Int) = l.getD k 0 := by
  have hb := h.el k hk
  unfold sgF
  generalize l.getD k 0 = x at *
  split
  · refine ⟨by omega, by omega, by omega, ?_⟩
    rw [show x - (P : Int) = x + (P : Int) * (-1) by omega, Int.add_mul_emod_self_left, Int.emod_eq_of_lt hb.1 hb.2]
  · exact ⟨by omega, by omega, by omega, Int.emod_eq_of_lt hb.1 hb.2⟩
theorem sg_reduce {P : Nat} {l : List Int} (h : Fit P l) : rdS (P : Int) (fullL (sgF P l) l.length) = (l, 0) := by
  have h2 := h.pr.1
  have h3 := h.l64
  refine rd_val h.pr h.le (by rw [fullL_len]; omega) (any2_false (fun j hj => ?_)) ?_
  · rw [fullL_len] at hj
    rw [fullL_getD _ _ _ _ hj]
    have := sg_bd h hj
    omega
  · rw [fullL_len]
    refine Eq.trans (fullL_congr (g := fun i => l.getD i 0) (fun i hi => ?_)) (fullL_id l)
    unfold rdF
    rw [fullL_getD _ _ _ _ hi]
    exact (sg_bd h hi).2.2.2

set_option maxRecDepth 20000 in
set_option maxHeartbeats 1000000 in
theorem fourierSigns_walk (p : Int) (A : Option Addr) (c : Nat) (l : List Int) (w : World)
    (hp : -9223372036854775808 ≤ p ∧ p ≤ 9223372036854775807)
    (hx : RI .i64 w A l) (hlx : l.length ≤ 9223372036854775807) (_ : ∀ x ∈ l, (Lit.int .i64 x).wf = true) :
    Calls Try.prog 7 #[.int .i64 p, .slice A l.length c] w fun e w' => e = .returned (.bool true) ∧ Below w.heap.size w w' := by
  rcases fitB_cases p l l with ⟨e0, P, rfl, hF, _, _⟩ | e0
  · have h1 := hF.l1
    have h2 := hF.l64
    have h3 := hF.pr.1
    have h4 := hF.le
    have HS := Lib.hid (show sgS (P : Int) l = (fullL (sgF P l) l.length, 0) from sg_val hF rfl)
    have HR := Lib.hid (sg_reduce hF)
    have HF := Lib.hid hF
    clear hF
    have HSL := Lib.hid (fullL_len (sgF P l) l.length)
    go_enter Try.func7, Try.ntmps7
    go_wp2_with fail
    refine (fit11_any _ _ _ _ _ _ _ _ hx hx hlx hlx hp.1 hp.2).mono ?_
    rintro _ w1 ⟨rfl, hb1⟩
    rw [e0]
    go_wp2_with fail
    refine (signed_at (P : Int) _ _ l (fullL (sgF P l) l.length) 0 HS.out _ (hx.keep hb1) hlx hp.1 hp.2).mono ?_
    rintro _ w2 ⟨A2, c2, rfl, r2, hb2⟩
    have hB2 := bstep hb1 hb2
    clear hb1 hb2
    go_wp2_with fail
    refine (reduce_at (P : Int) _ _ (fullL (sgF P l) l.length) l 0 HR.out _ r2 (by rw [fullL_len]; omega) hp.1 hp.2).mono ?_
    rintro _ w3 ⟨A3, c3, rfl, r3, hb3⟩
    have hB3 := bstep hB2 hb3
    replace r2 := r2.keep hb3
    clear hB2 hb3
    go_wp2_with fail
    refine (same10_any _ _ _ _ _ _ _ r3 (hx.keep hB3) (by omega) (by omega)).mono ?_
    rintro _ w4 ⟨rfl, q4, rfl⟩
    have t1 : decide (l = l) = true := decide_eq_true rfl
    have hsl := HSL.out
    rw [t1]
    simp only [hsl]
    have r2' : RI .i64 (w3.drewN q4) A2 (fullL (sgF P l) l.length) := r2.keep (below_drewN (Below.refl _ _) _)
    have hB4 := below_drewN hB3 q4
    generalize w3.drewN q4 = w5 at *
    clear t1 r2
    go_wp2
    go_loopg [9] l.length (fun gk i wr => ∃ (k q : Nat), k + gk = l.length ∧ i = .int .i64 k ∧ wr = w5.drewN q)
    case atStart => exact ⟨0, 0, by omega, rfl, rfl⟩
    case round =>
      obtain ⟨k, q, hk, rfl, rfl⟩ := hrel
      have hk' : k ≤ l.length := by omega
      have HK := Lib.hid hk
      clear hk
      by_cases hlt : k < l.length
      · obtain ⟨b1, off1, rfl, hlw1, hc1⟩ := r2'.at2 (i := k) (by rw [hsl]; exact hlt)
        rw [fullL_getD _ _ _ _ hlt] at hc1
        obtain ⟨s1, s2, s3, _⟩ := sg_bd HF.out hlt
        generalize sgF P l k = X at *
        have d1 : decide ((P : Int) < 2 * X) = false := decide_eq_false (by omega)
        have d2 : decide ((P : Int) ≤ -2 * X) = false := decide_eq_false (by omega)
        have d3 : decide ((P : Int) ≤ -(2 * X)) = false := decide_eq_false (by omega)
        go_wp2
        first
          | (go_roundg (gk - 1)
             case rel => exact ⟨k + 1, _, by have := HK.out; omega, by go_num, rfl⟩
             case measure => have := HK.out; omega)
          | (go_quiet (fail)
             go_wp2
             go_roundg (gk - 1)
             case rel => exact ⟨k + 1, _, by have := HK.out; omega, by go_num, rfl⟩
             case measure => have := HK.out; omega)
      · go_wp2_with fail
        refine (alive11_any _).mono ?_
        rintro _ w9 ⟨rfl, hb9⟩
        go_wp2
        go_ret
        exact ⟨rfl, bstep (below_drewN hB4 _) hb9⟩
  · go_enter Try.func7, Try.ntmps7
    go_wp2_with fail
    refine (fit11_any _ _ _ _ _ _ _ _ hx hx hlx hlx hp.1 hp.2).mono ?_
    rintro _ w1 ⟨rfl, hb1⟩
    rw [e0]
    go_wp2_with fail
    refine (alive11_any _).mono ?_
    rintro _ w2 ⟨rfl, hb2⟩
    go_wp2
    go_ret
    exact ⟨rfl, bstep hb1 hb2⟩
end Go.Proofs.Ytdcacklochaljaa
