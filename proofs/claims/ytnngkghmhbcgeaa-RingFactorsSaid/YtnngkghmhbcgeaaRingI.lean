/-
  Contracts: Generator, Root (the program's and the reference's), fringeref10.Same.
-/
import Derived.Test.YtnngkghmhbcgeaaRingH
namespace Go.Proofs.Ytnngkghmhbcgeaa
open Go.RowKit Num
set_option linter.unusedVariables false

noncomputable def genS (p : Int) : Int × Int := if okP p = true then (((genN p.toNat : Nat) : Int), 0) else (0, 2)
noncomputable def rootS (p n : Int) : Int × Int :=
  if okP p = true then (if n < 1 then (0, 2) else if (p - 1) % n ≠ 0 then (0, 6) else (((rootN p.toNat n.toNat : Nat) : Int), 0)) else (0, 2)
theorem genN_lt {P : Nat} (hP : Pr P) : genN P < P := (genN_is hP).2.1

theorem ringGen_any (p : Int) (w : World) (hp1 : -9223372036854775808 ≤ p) (hp2 : p ≤ 9223372036854775807) :
    Calls Try.prog 20 #[.int .i64 p] w (RetV w (genS p)) := by
  rcases ok_cases p with ⟨e0, e1, P, rfl, h2, h3, hP⟩ | ⟨e0, e1⟩
  · have c0 : (chkE (P : Int) != 0) = false := by rw [e0]; rfl
    have HP := Lib.hid hP
    have HS := Lib.hid (show genS P = (((genN P : Nat) : Int), 0) by unfold genS; rw [if_pos e1]; rfl)
    clear hP
    go_enter Try.func20, Try.ntmps20
    go_wp2_with fail
    refine (ringCheck_any _ _ (by omega) (by omega)).mono ?_
    rintro _ w1 ⟨rfl, hb1⟩
    go_wp2_with fail
    refine (gen_in P _ h2 h3 HP.out).mono ?_
    rintro _ w2 ⟨rfl, hb2⟩
    go_wp2
    go_ret2
    exact RetV.mk HS.out (bstep hb1 hb2)
  · have c0 : (chkE p != 0) = true := by rw [e0]; rfl
    have HS := Lib.hid (show genS p = (0, chkE p) by unfold genS; rw [e1, e0]; rfl)
    clear e0
    go_enter Try.func20, Try.ntmps20
    go_wp2_with fail
    refine (ringCheck_any _ _ hp1 hp2).mono ?_
    rintro _ w1 ⟨rfl, hb1⟩
    have hB := hb1
    go_wp2
    go_ret2
    exact RetV.mk HS.out hB
theorem refGen_any (p : Int) (w : World) (hp1 : -9223372036854775808 ≤ p) (hp2 : p ≤ 9223372036854775807) :
    Calls Try.prog 21 #[.int .i64 p] w (RetV w (genS p)) := by
  rcases ok_cases p with ⟨e0, e1, P, rfl, h2, h3, hP⟩ | ⟨e0, e1⟩
  · have c0 : (chkE (P : Int) != 0) = false := by rw [e0]; rfl
    have HP := Lib.hid hP
    have HS := Lib.hid (show genS P = (((genN P : Nat) : Int), 0) by unfold genS; rw [if_pos e1]; rfl)
    clear hP
    go_enter Try.func21, Try.ntmps21
    go_wp2_with fail
    refine (refCheck_any _ _ (by omega) (by omega)).mono ?_
    rintro _ w1 ⟨rfl, hb1⟩
    go_wp2_with fail
    refine (refGen_in P _ h2 h3 HP.out).mono ?_
    rintro _ w2 ⟨rfl, hb2⟩
    go_wp2
    go_ret2
    exact RetV.mk HS.out (bstep hb1 hb2)
  · have c0 : (chkE p != 0) = true := by rw [e0]; rfl
    have HS := Lib.hid (show genS p = (0, chkE p) by unfold genS; rw [e1, e0]; rfl)
    clear e0
    go_enter Try.func21, Try.ntmps21
    go_wp2_with fail
    refine (refCheck_any _ _ hp1 hp2).mono ?_
    rintro _ w1 ⟨rfl, hb1⟩
    (go_wp2_with fail; refine (refCheck_any _ _ hp1 hp2).mono ?_; rintro _ w2 ⟨rfl, hb2⟩; have hB := bstep hb1 hb2)
    go_wp2
    go_ret2
    exact RetV.mk HS.out hB

set_option maxHeartbeats 400000 in
theorem ringRoot_any (p n : Int) (w : World) (hp1 : -9223372036854775808 ≤ p) (hp2 : p ≤ 9223372036854775807) (hn2 : n ≤ 9223372036854775807) :
    Calls Try.prog 22 #[.int .i64 p, .int .i64 n] w (RetV w (rootS p n)) := by
  rcases ok_cases p with ⟨e0, e1, P, rfl, h2, h3, hP⟩ | ⟨e0, e1⟩
  · have c0 : (chkE (P : Int) != 0) = false := by rw [e0]; rfl
    have HP := Lib.hid hP
    clear hP
    by_cases hn : n < 1
    · have HS := Lib.hid (show rootS P n = (0, 2) by unfold rootS; rw [if_pos e1, if_pos hn])
      go_enter Try.func22, Try.ntmps22
      go_wp2_with fail
      refine (ringCheck_any _ _ (by omega) (by omega)).mono ?_
      rintro _ w1 ⟨rfl, hb1⟩
      go_wp2
      go_ret2
      exact RetV.mk HS.out hb1
    · obtain ⟨N, rfl⟩ : ∃ N : Nat, n = N := ⟨n.toNat, by omega⟩
      have hN : 1 ≤ N := by omega
      have g0 : IntKind.i64.wrap ((P : Int) - 1) = ((P - 1 : Nat) : Int) := by rw [IntWalk.i64_in _ (by omega)]; omega
      have eP : ((P - 1 : Nat) : Int) = (P : Int) - 1 := by omega
      by_cases hm : (P - 1) % N = 0
      · have f1 : ((((P - 1) % N : Nat) : Int) != 0) = false := by rw [hm]; rfl
        have HS := Lib.hid (show rootS P N = (((rootN P N : Nat) : Int), 0) by
          unfold rootS
          rw [if_pos e1, if_neg hn, if_neg (by rw [← eP, ← Int.natCast_emod, hm]; simp)]; rfl)
        have hgl := genN_lt HP.out
        have hg1 : wrap64 (((P - 1 : Nat) : Int) / (N : Int)) = (((P - 1) / N : Nat) : Int) := quo_wrap (by omega)
        have hg1' : IntKind.i64.wrap (((P - 1 : Nat) : Int) / (N : Int)) = (((P - 1) / N : Nat) : Int) := by rw [IntWalk.i64_left]; exact hg1
        have hg2 : (P - 1) / N ≤ P - 1 := Nat.div_le_self _ N
        have HR := Lib.hid (show rootN P N = genN P ^ ((P - 1) / N) % P from rfl)
        have hz1 : ((N : Int) == 0) = false := by rw [beq_eq_false_iff_ne]; omega
        have hz2 : ¬ ((N : Int) = 0) := by omega
        have hz3 : ¬ (N = 0) := by omega
        clear hn hm eP
        generalize hQ : (P - 1) / N = Q at *
        clear hQ
        go_enter Try.func22, Try.ntmps22
        go_wp2_with fail
        refine (ringCheck_any _ _ (by omega) (by omega)).mono ?_
        rintro _ w1 ⟨rfl, hb1⟩
        go_wp2
        go_region_held3 (fun _ => True) (first | go_keep | exact trivial)
          ((first
            | (go_at_call 34; refine (gen_in P _ h2 h3 HP.out).mono ?_; rintro e w5 ⟨rfl, hb5⟩)
            | (go_at_call 30;  refine (power_any P (genN P) Q _ h2 h3 (by omega) (by omega)).mono ?_; rintro e w6 ⟨rfl, hb6⟩; rw [← HR.out])))
        all_goals go_wp2
        all_goals go_ret2
        all_goals exact RetV.mk HS.out (bstep (bstep (hb1.trans (below_drewN (Below.refl _ _) _)) hb5) hb6)
      · have f1 : ((((P - 1) % N : Nat) : Int) != 0) = true := by rw [bne_iff_ne]; omega
        have HS := Lib.hid (show rootS P N = (0, 6) by
          unfold rootS
          rw [if_pos e1, if_neg hn, if_pos (by rw [← eP, ← Int.natCast_emod]; omega)])
        clear hn hm eP
        go_enter Try.func22, Try.ntmps22
        go_wp2_with fail
        refine (ringCheck_any _ _ (by omega) (by omega)).mono ?_
        rintro _ w1 ⟨rfl, hb1⟩
        go_wp2
        go_ret2
        exact RetV.mk HS.out hb1
  · have c0 : (chkE p != 0) = true := by rw [e0]; rfl
    have HS := Lib.hid (show rootS p n = (0, chkE p) by unfold rootS; rw [e1, e0]; rfl)
    clear e0
    go_enter Try.func22, Try.ntmps22
    go_wp2_with fail
    refine (ringCheck_any _ _ hp1 hp2).mono ?_
    rintro _ w1 ⟨rfl, hb1⟩
    have hB := hb1
    go_wp2
    go_ret2
    exact RetV.mk HS.out hB
set_option maxHeartbeats 400000 in
theorem refRoot_any (p n : Int) (w : World) (hp1 : -9223372036854775808 ≤ p) (hp2 : p ≤ 9223372036854775807) (hn2 : n ≤ 9223372036854775807) :
    Calls Try.prog 23 #[.int .i64 p, .int .i64 n] w (RetV w (rootS p n)) := by
  rcases ok_cases p with ⟨e0, e1, P, rfl, h2, h3, hP⟩ | ⟨e0, e1⟩
  · have c0 : (chkE (P : Int) != 0) = false := by rw [e0]; rfl
    have HP := Lib.hid hP
    clear hP
    by_cases hn : n < 1
    · have HS := Lib.hid (show rootS P n = (0, 2) by unfold rootS; rw [if_pos e1, if_pos hn])
      go_enter Try.func23, Try.ntmps23
      go_wp2_with fail
      refine (refCheck_any _ _ (by omega) (by omega)).mono ?_
      rintro _ w1 ⟨rfl, hb1⟩
      go_wp2
      go_ret2
      exact RetV.mk HS.out hb1
    · obtain ⟨N, rfl⟩ : ∃ N : Nat, n = N := ⟨n.toNat, by omega⟩
      have hN : 1 ≤ N := by omega
      have g0 : IntKind.i64.wrap ((P : Int) - 1) = ((P - 1 : Nat) : Int) := by rw [IntWalk.i64_in _ (by omega)]; omega
      have eP : ((P - 1 : Nat) : Int) = (P : Int) - 1 := by omega
      by_cases hm : (P - 1) % N = 0
      · have f1 : ((((P - 1) % N : Nat) : Int) != 0) = false := by rw [hm]; rfl
        have HS := Lib.hid (show rootS P N = (((rootN P N : Nat) : Int), 0) by
          unfold rootS
          rw [if_pos e1, if_neg hn, if_neg (by rw [← eP, ← Int.natCast_emod, hm]; simp)]; rfl)
        have hgl := genN_lt HP.out
        have hg1 : wrap64 (((P - 1 : Nat) : Int) / (N : Int)) = (((P - 1) / N : Nat) : Int) := quo_wrap (by omega)
        have hg1' : IntKind.i64.wrap (((P - 1 : Nat) : Int) / (N : Int)) = (((P - 1) / N : Nat) : Int) := by rw [IntWalk.i64_left]; exact hg1
        have hg2 : (P - 1) / N ≤ P - 1 := Nat.div_le_self _ N
        have HR := Lib.hid (show rootN P N = genN P ^ ((P - 1) / N) % P from rfl)
        have hz1 : ((N : Int) == 0) = false := by rw [beq_eq_false_iff_ne]; omega
        have hz2 : ¬ ((N : Int) = 0) := by omega
        have hz3 : ¬ (N = 0) := by omega
        clear hn hm eP
        generalize hQ : (P - 1) / N = Q at *
        clear hQ
        go_enter Try.func23, Try.ntmps23
        go_wp2_with fail
        refine (refCheck_any _ _ (by omega) (by omega)).mono ?_
        rintro _ w1 ⟨rfl, hb1⟩
        go_wp2
        go_region_held3 (fun _ => True) (first | go_keep | exact trivial)
          ((first
            | (go_at_call 35; refine (refGen_in P _ h2 h3 HP.out).mono ?_; rintro e w5 ⟨rfl, hb5⟩)
            | (go_at_call 27;  refine (refPower_any P (genN P) Q _ h2 h3 (by omega) (by omega)).mono ?_; rintro e w6 ⟨rfl, rfl⟩; rw [← HR.out])))
        all_goals go_wp2
        all_goals go_ret2
        all_goals exact RetV.mk HS.out (bstep (hb1.trans (below_drewN (Below.refl _ _) _)) hb5)
      · have f1 : ((((P - 1) % N : Nat) : Int) != 0) = true := by rw [bne_iff_ne]; omega
        have HS := Lib.hid (show rootS P N = (0, 6) by
          unfold rootS
          rw [if_pos e1, if_neg hn, if_pos (by rw [← eP, ← Int.natCast_emod]; omega)])
        clear hn hm eP
        go_enter Try.func23, Try.ntmps23
        go_wp2_with fail
        refine (refCheck_any _ _ (by omega) (by omega)).mono ?_
        rintro _ w1 ⟨rfl, hb1⟩
        go_wp2
        go_ret2
        exact RetV.mk HS.out hb1
  · have c0 : (chkE p != 0) = true := by rw [e0]; rfl
    have HS := Lib.hid (show rootS p n = (0, chkE p) by unfold rootS; rw [e1, e0]; rfl)
    clear e0
    go_enter Try.func23, Try.ntmps23
    go_wp2_with fail
    refine (refCheck_any _ _ hp1 hp2).mono ?_
    rintro _ w1 ⟨rfl, hb1⟩
    (go_wp2_with fail; refine (refCheck_any _ _ hp1 hp2).mono ?_; rintro _ w2 ⟨rfl, hb2⟩; have hB := bstep hb1 hb2)
    go_wp2
    go_ret2
    exact RetV.mk HS.out hB
end Go.Proofs.Ytnngkghmhbcgeaa
