/-
  CrossSpectra: SameLists, and the walk.
-/
import Derived.Test.YtcpmpfnickhojaaCrP
import Derived.Test.YtcpmpfnickhojaaCrN
namespace Go.Proofs.Ytcpmpfnickhojaa
open Go.RowKit Num Dft
set_option linter.unusedVariables false
set_option linter.unusedSimpArgs false
namespace Crs
open Lol

theorem q_draws {P : Program} {f : FuncId} {args : Array Value} {w : World} {a n : Nat} {v : Value}
    (h : Calls P f args ((w.drewN a).drewN n) fun e w' => e = .returned v ∧ ∃ m, w' = ((w.drewN a).drewN n).drewN m) :
    Calls P f args (w.drewN (a + n)) fun e w'' => e = .returned v ∧ ∃ m, w'' = w.drewN (a + m) := by
  rw [← World.drewN_drewN]
  exact h.mono fun _ _ ⟨he, m, hm⟩ => ⟨he, n + m, by rw [hm]; simp only [World.drewN_drewN, Nat.add_assoc]⟩
theorem lol_ne {L M : List (List Int)} {k : Nat} (h : k < L.length) (h2 : k < M.length) (hn : ¬ L[k] = M[k]) : decide (L = M) = false := by
  rw [decide_eq_false_iff_not]
  rintro rfl
  exact hn rfl
theorem lol_eq {L M : List (List Int)} (hl : L.length = M.length) (h : ∀ j, j < L.length → L.getD j [] = M.getD j []) : L = M := by
  refine List.ext_getElem hl fun j h1 h2 => ?_
  have := h j h1
  simpa [List.getD_eq_getElem?_getD, h1, h2] using this
set_option maxHeartbeats 4000000 in
theorem sameLists_any (A B : Option Addr) (c d : Nat) (L M : List (List Int)) (w : World) (hx : RLL .i64 w A L) (hy : RLL .i64 w B M) (hl : L.length ≤ 140737488355328) (hl2 : M.length ≤ 140737488355328) (hall : ∀ l ∈ L, l.length ≤ 140737488355328) (hall' : ∀ l ∈ M, l.length ≤ 140737488355328) :
    Calls Try.prog 19 #[.slice A L.length c, .slice B M.length d] w fun e w' => e = .returned (.bool (decide (L = M))) ∧ ∃ n, w' = w.drewN n := by
  have HALL := Lib.hid (And.intro hall hall')
  clear hall hall'
  by_cases hlen : L.length = M.length
  · have h2 : ((L.length : Int) != M.length) = false := by simp; omega
    have hle : L.length ≤ M.length := by omega
    have HL := Lib.hid hlen
    clear hlen
    go_enter Try.func19, Try.ntmps19
    go_wp2
    go_loopg [5] L.length (fun gk i wr => ∃ k n : Nat, k + gk = L.length ∧ i = .int .i64 k ∧ wr = w.drewN n ∧ Hid (∀ j, j < k → L.getD j [] = M.getD j []))
    case atStart => exact ⟨0, 0, by omega, rfl, rfl, Lib.hid (by simp)⟩
    case round =>
      obtain ⟨k, n, hk, rfl, rfl, hall⟩ := hrel
      have hk' : k ≤ L.length := by omega
      have HK := Lib.hid hk
      clear hk
      by_cases hlt : k < L.length
      · have hlt2 := Nat.lt_of_lt_of_le hlt hle
        obtain ⟨b1, off1, A1, c1, rfl, _, hc1, hr, _⟩ := hx.at_ hlt
        obtain ⟨b2, off2, A2, c2, rfl, _, hd1, hr', _⟩ := hy.at_ hlt2
        have hn1 := HALL.out.1 _ (List.getElem_mem hlt)
        have hn2 := HALL.out.2 _ (List.getElem_mem hlt2)
        have hS := fun m => same13_any A1 A2 c1 c2 L[k] M[k] ((w.drewN n).drewN m) (hr.keep (below_drewN (below_drewN (Below.refl _ _) _) _)) (hr'.keep (below_drewN (below_drewN (Below.refl _ _) _) _)) hn1 hn2
        by_cases hs : L[k] = M[k]
        · have ds : decide (L[k] = M[k]) = true := decide_eq_true hs
          have HV : Hid (L[k] = M[k]) := Lib.hid hs
          clear hs
          go_wp2
          go_quiet ((go_at_call 20; exact q_draws (hS _)))
          go_wp2
          go_roundg (gk - 1)
          case rel => exact ⟨k + 1, _, by have := HK.out; omega, by go_num, rfl, Lib.hid (all_lt_succ hall.out (by simpa [List.getD_eq_getElem?_getD, hlt, hlt2] using HV.out))⟩
          case measure => have := HK.out; omega
        · have ds : decide (L[k] = M[k]) = false := decide_eq_false hs
          have HV := Lib.hid (lol_ne hlt hlt2 hs)
          clear hs
          go_wp2
          go_quiet ((go_at_call 20; exact q_draws (hS _)))
          go_wp2
          go_ret
          refine ⟨ret_bool HV.out.symm, ?_⟩
          simp only [World.drewN_drewN]
          exact ⟨_, rfl⟩
      · go_wp2
        go_ret
        refine ⟨ret_bool ?_, _, rfl⟩
        symm
        rw [decide_eq_true_eq]
        exact lol_eq HL.out (fun j hj => hall.out j (by omega))
  · have h2 : ((L.length : Int) != M.length) = true := by simp; omega
    go_enter Try.func19, Try.ntmps19
    go_wp2
    go_ret
    exact ⟨ret_bool (by symm; simp; intro h; exact hlen (by rw [h])), 0, rfl⟩
theorem pcS_bd (xs : List Int) : (pcS xs).1.length ≤ 300 ∧ ∀ l ∈ (pcS xs).1, l.length ≤ 140737488355328 := by
  by_cases he : streamErr xs = 0
  · rw [pcS_ok he]
    have := (Lagw.streamErr_zero he).1
    refine ⟨by show (pcs xs).length ≤ 300; rw [pcs_len]; unfold pcN; omega, fun l hl => ?_⟩
    have hl2 : l ∈ pcs xs := hl
    unfold pcs fullL at hl2
    simp only [List.mem_map, List.mem_range] at hl2
    obtain ⟨i, _, rfl⟩ := hl2
    unfold pcI
    rw [List.length_take]
    omega
  · rw [pcS_err he]
    exact ⟨by simp, by simp⟩
theorem spcS_bd (xs : List Int) : (spcS xs).1.length ≤ 300 := by
  unfold spcS
  repeat' split
  all_goals first | (simp; done) | (show (spcL xs).length ≤ 300; rw [spcL_len]; omega)
theorem prdS_bd (a b : List Int) : (prdS a b).1.length ≤ 300 := by
  unfold prdS
  repeat' split
  all_goals first | (simp; done) | (show (prdL a b).length ≤ 300; rw [prdL_len]; omega)
theorem vlS_bd (a : List Int) : (vlS a).1.length ≤ 300 := by
  unfold vlS
  repeat' split
  all_goals first | (simp; done) | (show (vlL a).length ≤ 300; unfold vlL; rw [fullL_len]; omega)
set_option maxRecDepth 20000 in
set_option maxHeartbeats 4000000 in
theorem crossSpectra_walk (S : Option Addr) (c : Nat) (xs : List Int) (A : Option Addr) (c1 : Nat) (a : List Int) (B : Option Addr) (c2 : Nat) (b : List Int) (w : World)
    (hx : RI .i64 w S xs) (hlx : xs.length ≤ 9223372036854775807) (_ : ∀ x ∈ xs, (Lit.int .i64 x).wf = true)
    (ha : RI .i64 w A a) (hla : a.length ≤ 9223372036854775807) (_ : ∀ x ∈ a, (Lit.int .i64 x).wf = true)
    (hb : RI .i64 w B b) (hlb : b.length ≤ 9223372036854775807) (_ : ∀ x ∈ b, (Lit.int .i64 x).wf = true) :
    Calls Try.prog 3 #[.slice S xs.length c, .slice A a.length c1, .slice B b.length c2] w fun e w' => e = .returned (.bool true) ∧ Below w.heap.size w w' := by
  rcases (Decidable.em (xs.length ≤ 300)).symm with h1 | h1
  · have d1 : decide (300 < xs.length) = true := by simp; omega
    go_enter Try.func3, Try.ntmps3
    go_wp2_with fail
    refine (long13_any _ _ _ _).mono ?_
    rintro _ _ ⟨rfl, rfl⟩
    go_wp2
    go_ret
    exact ⟨rfl, Below.refl _ _⟩
  have d1 : decide (300 < xs.length) = false := by simp; omega
  rcases (Decidable.em (a.length ≤ 300)).symm with h2 | h2
  · have d2 : decide (300 < a.length) = true := by simp; omega
    go_enter Try.func3, Try.ntmps3
    go_wp2_with fail
    refine (long13_any _ _ _ _).mono ?_
    rintro _ _ ⟨rfl, rfl⟩
    go_wp2
    go_ret
    exact ⟨rfl, Below.refl _ _⟩
  have d2 : decide (300 < a.length) = false := by simp; omega
  rcases (Decidable.em (b.length ≤ 300)).symm with h3 | h3
  · have d3 : decide (300 < b.length) = true := by simp; omega
    go_enter Try.func3, Try.ntmps3
    go_wp2_with fail
    refine (long13_any _ _ _ _).mono ?_
    rintro _ _ ⟨rfl, rfl⟩
    go_wp2
    go_ret
    exact ⟨rfl, Below.refl _ _⟩
  have d3 : decide (300 < b.length) = false := by simp; omega
  obtain ⟨i0, hi0, hz0, hz1, hz2⟩ := info_parts info_int
  obtain ⟨j0, hj0, hy0, hy1, hy2⟩ := info_int64
  have HS1 := fun A c w hx => spectrum_any A c xs w hx (by omega)
  have HS2 := fun w hx => refSpectrum_any S c xs w hx (by omega)
  have HP1 := fun A c w hx hy => product_any A B c c2 a b w hx hy hla hlb
  have HP2 := fun w hx hy => refProduct_any A B c1 c2 a b w hx hy hla hlb
  have HV1 := fun A c w hx => values_any A c a w hx hla
  have HV2 := fun w hx => refValues_any A c1 a w hx hla
  have HC1 := fun A c w hx hc => pieces_any A c xs w hx hc (by omega)
  have HC2 := fun w hx => refPieces_any S c xs w hx (by omega)
  have L1 := spcS_bd xs
  have L2 := prdS_bd a b
  have L3 := vlS_bd a
  have L4 := (pcS_bd xs).1
  have L5 := Lib.hid (pcS_bd xs).2
  generalize spcS xs = R1 at *
  generalize prdS a b = R2 at *
  generalize vlS a = R3 at *
  generalize pcS xs = R4 at *
  go_enter Try.func3, Try.ntmps3
  go_wp2_with fail
  refine (long13_any _ _ _ _).mono ?_
  rintro _ _ ⟨rfl, rfl⟩
  go_wp2_with (first
    | (at_builtin; refine wpList_clone_RI _ rfl (.tmp 37) (.tmp 38) 22 rfl 3 8 Try.underlying22 hi0 hz0 hz1 hz2 rfl .i64 _ rfl (by simp) S c xs rfl hx (by unfold maxLen; omega) (by omega) ?_; intro A1 k1 w1 hk1 rO hb1)
    | (at_builtin; refine wpList_clone_RI _ rfl (.tmp 40) (.tmp 41) 23 rfl 2 8 Try.underlying23 hj0 hy0 hy1 hy2 rfl .i64 _ rfl (by simp) A c1 a rfl (ha.keep hb1) (by unfold maxLen; omega) (by omega) ?_; intro A2 k2 w2 hk2 rP hb2)
    | fail)
  have hB2 := bstep hb1 hb2
  replace rO := rO.keep hb2
  clear hb1 hb2
  refine (HS1 _ _ _ rO).mono ?_
  rintro _ w3 ⟨A3, k3, rfl, r3', _, hb3⟩
  have r3 := r3'.ri
  have hB3 := bstep hB2 hb3
  replace rO := rO.keep hb3
  replace rP := rP.keep hb3
  clear hb3 hB2 r3' HS1
  go_wp2_with fail
  refine (HS2 _ (hx.keep hB3)).mono ?_
  rintro _ w4 ⟨A4, k4, rfl, r4, hb4⟩
  have hB4 := bstep hB3 hb4
  replace rO := rO.keep hb4
  replace rP := rP.keep hb4
  replace r3 := r3.keep hb4
  clear hb4 hB3 HS2
  go_wp2_with fail
  refine (HP1 _ _ _ rP (hb.keep hB4)).mono ?_
  rintro _ w5 ⟨A5, k5, rfl, r5', _, hb5⟩
  have r5 := r5'.ri
  have hB5 := bstep hB4 hb5
  replace rO := rO.keep hb5
  replace rP := rP.keep hb5
  replace r3 := r3.keep hb5
  replace r4 := r4.keep hb5
  clear hb5 hB4 r5' HP1
  go_wp2_with fail
  refine (HP2 _ (ha.keep hB5) (hb.keep hB5)).mono ?_
  rintro _ w6 ⟨A6, k6, rfl, r6, hb6⟩
  have hB6 := bstep hB5 hb6
  replace rO := rO.keep hb6
  replace rP := rP.keep hb6
  replace r3 := r3.keep hb6
  replace r4 := r4.keep hb6
  replace r5 := r5.keep hb6
  clear hb6 hB5 HP2
  go_wp2_with fail
  refine (HV1 _ _ _ rP).mono ?_
  rintro _ w7 ⟨A7, k7, rfl, r7', _, hb7⟩
  have r7 := r7'.ri
  have hB7 := bstep hB6 hb7
  replace rO := rO.keep hb7
  replace rP := rP.keep hb7
  replace r3 := r3.keep hb7
  replace r4 := r4.keep hb7
  replace r5 := r5.keep hb7
  replace r6 := r6.keep hb7
  clear hb7 hB6 r7' HV1
  go_wp2_with fail
  refine (HV2 _ (ha.keep hB7)).mono ?_
  rintro _ w8 ⟨A8, k8, rfl, r8, hb8⟩
  have hB8 := bstep hB7 hb8
  replace rO := rO.keep hb8
  replace rP := rP.keep hb8
  replace r3 := r3.keep hb8
  replace r4 := r4.keep hb8
  replace r5 := r5.keep hb8
  replace r6 := r6.keep hb8
  replace r7 := r7.keep hb8
  clear hb8 hB7 HV2
  go_wp2_with fail
  refine (HC1 _ _ _ rO hk1).mono ?_
  rintro _ w9 ⟨A9, k9, rfl, r9, hb9⟩
  have hB9 := bstep hB8 hb9
  replace rO := rO.keep hb9
  replace rP := rP.keep hb9
  replace r3 := r3.keep hb9
  replace r4 := r4.keep hb9
  replace r5 := r5.keep hb9
  replace r6 := r6.keep hb9
  replace r7 := r7.keep hb9
  replace r8 := r8.keep hb9
  clear hb9 hB8 HC1
  go_wp2_with fail
  refine (HC2 _ (hx.keep hB9)).mono ?_
  rintro _ w10 ⟨A10, k10, rfl, r10, hb10⟩
  have hB10 := bstep hB9 hb10
  replace rO := rO.keep hb10
  replace rP := rP.keep hb10
  replace r3 := r3.keep hb10
  replace r4 := r4.keep hb10
  replace r5 := r5.keep hb10
  replace r6 := r6.keep hb10
  replace r7 := r7.keep hb10
  replace r8 := r8.keep hb10
  replace r9 := r9.keep hb10
  clear hb10 hB9 HC2
  have rX := hx.keep hB10
  have rY := ha.keep hB10
  go_wp2_with fail
  refine (same17_any _ _ _ _ _ _ _ r3 r4 (by omega) (by omega)).mono ?_
  rintro _ _ ⟨rfl, q1, rfl⟩
  go_wp2_with fail
  refine (same17_any _ _ _ _ _ _ _ (r5.keep (below_drewN (Below.refl _ _) _)) (r6.keep (below_drewN (Below.refl _ _) _)) (by omega) (by omega)).mono ?_
  rintro _ _ ⟨rfl, q2, rfl⟩
  go_wp2_with fail
  refine (same17_any _ _ _ _ _ _ _ (r7.keep (below_drewN (Below.refl _ _) _)) (r8.keep (below_drewN (Below.refl _ _) _)) (by omega) (by omega)).mono ?_
  rintro _ _ ⟨rfl, q3, rfl⟩
  go_wp2_with fail
  refine (sameLists_any _ _ _ _ _ _ _ (r9.keep (below_drewN (Below.refl _ _) _)) (r10.keep (below_drewN (Below.refl _ _) _)) (by omega) (by omega) L5.out L5.out).mono ?_
  rintro _ _ ⟨rfl, q4, rfl⟩
  go_wp2_with fail
  refine (same13_any _ _ _ _ _ _ _ (rO.keep (below_drewN (Below.refl _ _) _)) (rX.keep (below_drewN (Below.refl _ _) _)) (by omega) (by omega)).mono ?_
  rintro _ _ ⟨rfl, q5, rfl⟩
  go_wp2_with fail
  refine (same17_any _ _ _ _ _ _ _ (rP.keep (below_drewN (Below.refl _ _) _)) (rY.keep (below_drewN (Below.refl _ _) _)) (by omega) (by omega)).mono ?_
  rintro _ _ ⟨rfl, q6, rfl⟩
  go_wp2
  go_ret
  exact ⟨by simp, by first | exact below_drewN hB10 _ | exact below_drewN (below_drewN hB10 _) _⟩
end Crs
end Go.Proofs.Ytcpmpfnickhojaa
