/-
  Layer 12 (bank): fit; the walk of BankLossless.
-/
import Derived.Test.YtnhjeelcgfobnaaBkY
namespace Go.Proofs.Ytnhjeelcgfobnaa
open Go.RowKit Num
set_option maxRecDepth 8000
set_option linter.unusedVariables false
set_option linter.unusedSimpArgs false
namespace Bk
open Lol Crs

noncomputable def fitB (p n : Int) (s : List Int) : Bool := decide (s.length ≤ 128) && decide (strE p n s = 0)
theorem fit12_any (p n : Int) (A : Option Addr) (c : Nat) (s : List Int) (w : World) (hp1 : -9223372036854775808 ≤ p) (hp2 : p ≤ 9223372036854775807) (hx : RI .i64 w A s) :
    Calls Try.prog 27 #[.int .i64 p, .int .i64 n, .slice A s.length c] w fun e w' => e = .returned (.bool (fitB p n s)) ∧ Below w.heap.size w w' := by
  by_cases h : s.length ≤ 128
  · have d1 : decide (s.length ≤ 128) = true := decide_eq_true h
    have d1' : decide ((s.length : Int) ≤ 128) = true := decide_eq_true (by omega)
    have HC := Lib.hid (fun w hx => refStreams_any p n A c s w hp1 hp2 hx)
    by_cases h0 : strE p n s = 0
    · have HE : Hid (fitB p n s = true) := Lib.hid (by unfold fitB; rw [d1, decide_eq_true h0]; rfl)
      have c0 : (strE p n s == 0) = true := by rw [h0]; rfl
      clear h0
      go_enter Try.func27, Try.ntmps27
      go_wp2_with fail
      refine (HC.out _ hx).mono ?_
      rintro _ w1 ⟨rfl, hb1⟩
      go_wp2
      go_ret
      exact ⟨ret_bool HE.out.symm, hb1⟩
    · have HE : Hid (fitB p n s = false) := Lib.hid (by unfold fitB; rw [decide_eq_false h0, Bool.and_false])
      have c0 : (strE p n s == 0) = false := by rw [beq_eq_false_iff_ne]; exact h0
      clear h0
      go_enter Try.func27, Try.ntmps27
      go_wp2_with fail
      refine (HC.out _ hx).mono ?_
      rintro _ w1 ⟨rfl, hb1⟩
      go_wp2
      go_ret
      exact ⟨ret_bool HE.out.symm, hb1⟩
  · have d1 : decide (s.length ≤ 128) = false := decide_eq_false h
    have d1' : decide ((s.length : Int) ≤ 128) = false := decide_eq_false (by omega)
    have HE : Hid (fitB p n s = false) := Lib.hid (by unfold fitB; rw [d1]; rfl)
    go_enter Try.func27, Try.ntmps27
    go_wp2
    go_ret
    exact ⟨ret_bool HE.out.symm, Below.refl _ _⟩
theorem fit_yes {p n : Int} {s : List Int} (h : fitB p n s = true) : s.length ≤ 128 ∧ ∃ P N : Nat, p = P ∧ n = N ∧ Strm P N s := by
  unfold fitB at h
  rw [Bool.and_eq_true, decide_eq_true_eq, decide_eq_true_eq] at h
  exact ⟨h.1, str_zero h.2⟩
theorem check_w (P N : Nat) (b : List (List Int)) (m : Nat) (hm : b.length = m) (h7 : 7 ≤ P) (h2 : P ≤ 2000000000) (hB : Bank P N b) (A : Option Addr) (c : Nat) (w : World) (hx : RLL .i64 w A b) :
    Calls Try.prog 29 #[.int .i64 (P : Int), .slice A m c] w fun e w' => e = .returned (.int .i64 0) ∧ ∃ q, w' = w.drewN q := by
  subst hm
  have := refCheckB_any P A c b w h7 h2 hx
  rw [bank_ok hB] at this
  exact this
theorem small_bank {P n : Nat} {b : List (List Int)} (h : Bank P n b) : Small b := ⟨by have := h.len; omega, fun l hl => by
  obtain ⟨k, hk, rfl⟩ := List.getElem_of_mem hl
  have := h.row k hk
  omega⟩
set_option maxRecDepth 20000 in
set_option maxHeartbeats 4000000 in
theorem bankLossless_walk (p n : Int) (S : Option Addr) (cs : Nat) (s : List Int) (w : World)
    (hp : -9223372036854775808 ≤ p ∧ p ≤ 9223372036854775807) (_ : -9223372036854775808 ≤ n ∧ n ≤ 9223372036854775807)
    (hs : RI .i64 w S s) (hls : s.length ≤ 9223372036854775807) (_ : ∀ x ∈ s, (Lit.int .i64 x).wf = true) (hcap : s.length ≤ cs) :
    Calls Try.prog 5 #[.int .i64 p, .int .i64 n, .slice S s.length cs] w fun e w' => e = .returned (.bool true) ∧ Below w.heap.size w w' := by
  have HF := Lib.hid (fun w hs => fit12_any p n S cs s w hp.1 hp.2 hs)
  cases hf : fitB p n s
  · rw [hf] at HF
    go_enter Try.func5, Try.ntmps5
    go_wp2_with fail
    refine (HF.out _ hs).mono ?_
    rintro _ w1 ⟨rfl, hb1⟩
    go_wp2_with fail
    refine (alive12 _).mono ?_
    rintro _ w2 ⟨rfl, hb2⟩
    go_wp2
    go_ret
    exact ⟨rfl, bstep hb1 hb2⟩
  · rw [hf] at HF
    obtain ⟨h128, P, N, rfl, rfl, hS⟩ := fit_yes hf
    clear hf
    have hl1 := splitL_len P N s
    have hb0 := bank_split hS
    have SB := small_bank hb0
    have HS := Lib.hid (split_w P N s (splitL P N s) 0 s.length (s.length / N) (split_ok hS) rfl hl1 hp.1 hp.2 (by omega))
    have HM := Lib.hid (merge_w P (splitL P N s) s 0 (s.length / N) s.length (merge_split hS) hl1 rfl hp.1 hp.2)
    have HC := Lib.hid (check_w P N (splitL P N s) (s.length / N) hl1 hS.h7 hS.le hb0)
    have HSA := Lib.hid (same12_w (splitL P N s) (s.length / N) hl1 SB)
    have HSS := Lib.hid (sameStreams_w s s.length rfl (by omega))
    have HRW := Lib.hid (fun (h : 0 < (splitL P N s).length) => (hb0.row 0 h).1)
    have hn1 := hS.n1
    have hz1 : ((N : Int) == 0) = false := by rw [beq_eq_false_iff_ne]; omega
    have hM256 : s.length / N ≤ 256 := by have := Nat.div_le_self s.length N; omega
    have hq : IntKind.i64.wrap ((s.length : Int) / (N : Int)) = ((s.length / N : Nat) : Int) := by rw [← Int.natCast_ediv, IntWalk.i64_in _ (by omega)]
    clear hS hb0
    generalize splitL P N s = L at *
    generalize s.length / N = M at *
    by_cases hM : M = 0
    · have d1 : ((M : Int) == 0) = true := by rw [hM]; rfl
      have d1' : (M == 0) = true := by rw [hM]; rfl
      clear hM
      go_enter Try.func5, Try.ntmps5
      go_wp2_with fail
      refine (HF.out _ hs).mono ?_
      rintro _ w1 ⟨rfl, hb1⟩
      go_wp2_with fail
      refine (HS.out _ _ hcap _ (hs.keep hb1)).mono ?_
      rintro _ w2 ⟨A2, c2, rfl, r2, hb2⟩
      have hB2 := bstep hb1 hb2
      clear hb1 hb2
      go_wp2_with fail
      refine (HM.out _ _ _ r2).mono ?_
      rintro _ w3 ⟨A3, c3, rfl, r3, hc3, hb3⟩
      have hB3 := bstep hB2 hb3
      replace r2 := r2.keep hb3
      clear hb3 hB2
      go_wp2_with fail
      refine (HSS.out _ _ _ _ _ r3 (hs.keep hB3)).mono ?_
      rintro _ _ ⟨rfl, q1, rfl⟩
      have hbq : Below w3.heap.size w3 (World.drewN w3 q1) := below_drewN (Below.refl _ _) _
      go_wp2_with fail
      refine (HC.out _ _ _ (r2.keep hbq)).mono ?_
      rintro _ _ ⟨rfl, q2, rfl⟩
      have hbq2 : Below w3.heap.size w3 (World.drewN (World.drewN w3 q1) q2) := below_drewN hbq _
      have hB4 := bstep hB3 hbq2
      replace r2 := r2.keep hbq2
      replace r3 := r3.keep hbq2
      clear hbq hbq2
      go_wp2_with fail
      (try simp only [World.drewN_drewN] at r2 r3 hB4)
      refine (HS.out _ _ hc3 _ r3).mono ?_
      rintro _ w5 ⟨A5, c5, rfl, r5, hb5⟩
      have hB5 := bstep hB4 hb5
      replace r2 := r2.keep hb5
      clear hb5 hB4
      obtain ⟨b0, off0, A0, c0', hA0⟩ : ∃ (b0 off0 : Nat) (A0 : Option Addr) (c0' : Nat), 0 < M → A2 = some ⟨b0, off0, none⟩ ∧ b0 < w5.heap.size ∧ w5.cell? ⟨b0, off0, none⟩ = some (.slice A0 N c0') := by
        rcases Nat.eq_zero_or_pos M with h | h
        · exact ⟨0, 0, none, 0, fun h2 => by omega⟩
        · obtain ⟨b0, off0, A0, c0', e0, hl0, hc0, _, _⟩ := r2.at_ (i := 0) (by rw [hl1]; exact h)
          rw [HRW.out (by rw [hl1]; exact h), Nat.add_zero] at hc0
          exact ⟨b0, off0, A0, c0', fun _ => ⟨e0, hl0, hc0⟩⟩
      go_wp2_with fail
      refine (HSA.out _ _ _ _ _ r2 r5).mono ?_
      rintro _ _ ⟨rfl, q3, rfl⟩
      have hB5q : Below w.heap.size w (World.drewN w5 q3) := below_drewN hB5 _
      go_wp2_with (first | (go_at_call 28; with_reducible refine (alive12 _).mono ?_; rintro e w6 ⟨rfl, hb6⟩; have hB6 := bstep hB5q hb6) | fail)
      go_ret
      exact ⟨by simp, hB6⟩
    · have d1 : ((M : Int) == 0) = false := by rw [beq_eq_false_iff_ne]; omega
      have d1' : (M == 0) = false := by rw [beq_eq_false_iff_ne]; omega
      have hMp : 0 < M := by omega
      clear hM
      go_enter Try.func5, Try.ntmps5
      go_wp2_with fail
      refine (HF.out _ hs).mono ?_
      rintro _ w1 ⟨rfl, hb1⟩
      go_wp2_with fail
      refine (HS.out _ _ hcap _ (hs.keep hb1)).mono ?_
      rintro _ w2 ⟨A2, c2, rfl, r2, hb2⟩
      have hB2 := bstep hb1 hb2
      clear hb1 hb2
      go_wp2_with fail
      refine (HM.out _ _ _ r2).mono ?_
      rintro _ w3 ⟨A3, c3, rfl, r3, hc3, hb3⟩
      have hB3 := bstep hB2 hb3
      replace r2 := r2.keep hb3
      clear hb3 hB2
      go_wp2_with fail
      refine (HSS.out _ _ _ _ _ r3 (hs.keep hB3)).mono ?_
      rintro _ _ ⟨rfl, q1, rfl⟩
      have hbq : Below w3.heap.size w3 (World.drewN w3 q1) := below_drewN (Below.refl _ _) _
      go_wp2_with fail
      refine (HC.out _ _ _ (r2.keep hbq)).mono ?_
      rintro _ _ ⟨rfl, q2, rfl⟩
      have hbq2 : Below w3.heap.size w3 (World.drewN (World.drewN w3 q1) q2) := below_drewN hbq _
      have hB4 := bstep hB3 hbq2
      replace r2 := r2.keep hbq2
      replace r3 := r3.keep hbq2
      clear hbq hbq2
      go_wp2_with fail
      (try simp only [World.drewN_drewN] at r2 r3 hB4)
      refine (HS.out _ _ hc3 _ r3).mono ?_
      rintro _ w5 ⟨A5, c5, rfl, r5, hb5⟩
      have hB5 := bstep hB4 hb5
      replace r2 := r2.keep hb5
      clear hb5 hB4
      obtain ⟨b0, off0, A0, c0', hA0⟩ : ∃ (b0 off0 : Nat) (A0 : Option Addr) (c0' : Nat), 0 < M → A2 = some ⟨b0, off0, none⟩ ∧ b0 < w5.heap.size ∧ w5.cell? ⟨b0, off0, none⟩ = some (.slice A0 N c0') := by
        rcases Nat.eq_zero_or_pos M with h | h
        · exact ⟨0, 0, none, 0, fun h2 => by omega⟩
        · obtain ⟨b0, off0, A0, c0', e0, hl0, hc0, _, _⟩ := r2.at_ (i := 0) (by rw [hl1]; exact h)
          rw [HRW.out (by rw [hl1]; exact h), Nat.add_zero] at hc0
          exact ⟨b0, off0, A0, c0', fun _ => ⟨e0, hl0, hc0⟩⟩
      obtain ⟨rfl, hl0, hc0⟩ := hA0 hMp
      go_wp2_with fail
      refine (HSA.out _ _ _ _ _ r2 r5).mono ?_
      rintro _ _ ⟨rfl, q3, rfl⟩
      have hB5q : Below w.heap.size w (World.drewN w5 q3) := below_drewN hB5 _
      go_wp2_with (first | (go_at_call 28; with_reducible refine (alive12 _).mono ?_; rintro e w6 ⟨rfl, hb6⟩; have hB6 := bstep hB5q hb6) | fail)
      go_ret
      exact ⟨by simp, hB6⟩
end Bk
end Go.Proofs.Ytnhjeelcgfobnaa
