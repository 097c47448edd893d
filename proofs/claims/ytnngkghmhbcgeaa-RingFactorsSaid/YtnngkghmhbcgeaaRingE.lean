/-
  Contracts: Pow, Inv, Factors (the program's and the reference's).
-/
import Derived.Test.YtnngkghmhbcgeaaRingD
namespace Go.Proofs.Ytnngkghmhbcgeaa
open Go.RowKit Num
set_option linter.unusedVariables false

def RetV (w : World) (r : Int × Int) (e : Ending) (w' : World) : Prop := e = .returned (.tuple #[.int .i64 r.1, .int .i64 r.2]) ∧ Below w.heap.size w w'
theorem RetV.mk {w w' : World} {x y : Int} {r : Int × Int} (hr : r = (x, y)) (hb : Below w.heap.size w w') : RetV w r (.returned (.tuple #[.int .i64 x, .int .i64 y])) w' := by
  subst hr; exact ⟨rfl, hb⟩
theorem both_cases (p a : Int) : (bothE p a = 0 ∧ ∃ P A : Nat, p = P ∧ a = A ∧ 2 ≤ P ∧ P ≤ 2000000000 ∧ Pr P ∧ A < P) ∨ (bothE p a = 2 ∨ bothE p a = 8) := by
  rcases ok_cases p with ⟨e0, e1, P, rfl, h2, h3, hP⟩ | ⟨e0, e1⟩
  · by_cases ha : a < 0 ∨ (P : Int) ≤ a
    · right; right; unfold bothE; rw [if_pos e1, if_pos ha]
    · left
      exact ⟨by unfold bothE; rw [if_pos e1, if_neg ha], P, a.toNat, rfl, by omega, h2, h3, hP, by omega⟩
  · right; left; unfold bothE; rw [e1]; rfl
noncomputable def powS (p a n : Int) : Int × Int := if bothE p a = 0 then (if n < 0 then (0, 2) else (((a.toNat ^ n.toNat % p.toNat : Nat) : Int), 0)) else (0, bothE p a)
noncomputable def invS (p a : Int) : Int × Int := if bothE p a = 0 then (if a = 0 then (0, 18) else (((a.toNat ^ (p.toNat - 2) % p.toNat : Nat) : Int), 0)) else (0, bothE p a)

theorem ringPow_any (p a n : Int) (w : World) (hp1 : -9223372036854775808 ≤ p) (hp2 : p ≤ 9223372036854775807) (hn2 : n ≤ 9223372036854775807) :
    Calls Try.prog 10 #[.int .i64 p, .int .i64 a, .int .i64 n] w (RetV w (powS p a n)) := by
  rcases both_cases p a with ⟨e0, P, A, rfl, rfl, h2, h3, hP, hA⟩ | e0
  · have c0 : (bothE (P : Int) (A : Int) != 0) = false := by rw [e0]; rfl
    have HP := Lib.hid hP
    have HE := Lib.hid e0
    clear hP e0
    by_cases hn : n < 0
    · have HS := Lib.hid (show powS P A n = (0, 2) by unfold powS; rw [if_pos HE.out, if_pos hn])
      go_enter Try.func10, Try.ntmps10
      go_wp2_with fail
      refine (element_any _ _ _ (by omega) (by omega)).mono ?_
      rintro _ w1 ⟨rfl, hb1⟩
      go_wp2
      go_ret2
      exact RetV.mk HS.out hb1
    · obtain ⟨N, rfl⟩ : ∃ N : Nat, n = N := ⟨n.toNat, by omega⟩
      have HS := Lib.hid (show powS P A N = (((A ^ N % P : Nat) : Int), 0) by unfold powS; rw [if_pos HE.out, if_neg hn]; rfl)
      clear hn
      go_enter Try.func10, Try.ntmps10
      go_wp2_with fail
      refine (element_any _ _ _ (by omega) (by omega)).mono ?_
      rintro _ w1 ⟨rfl, hb1⟩
      (go_wp2_with fail; refine (power_any P A N _ h2 h3 (by omega) (by omega)).mono ?_; rintro _ w2 ⟨rfl, hb2'⟩; have hb2 := bstep hb1 hb2')
      go_wp2
      go_ret2
      exact RetV.mk HS.out hb2
  · have c0 : (bothE p a != 0) = true := by rw [bne_iff_ne]; omega
    have HS := Lib.hid (show powS p a n = (0, bothE p a) by unfold powS; rw [if_neg (by omega)])
    clear e0
    go_enter Try.func10, Try.ntmps10
    go_wp2_with fail
    refine (element_any _ _ _ hp1 hp2).mono ?_
    rintro _ w1 ⟨rfl, hb1⟩
    first
      | (go_wp2; go_ret2; exact RetV.mk HS.out hb1)
      | (go_wp2_with fail; refine (element_any _ _ _ hp1 hp2).mono ?_; rintro _ w2 ⟨rfl, hb2⟩; go_wp2; go_ret2; exact RetV.mk HS.out (bstep hb1 hb2))
theorem refPow_any (p a n : Int) (w : World) (hp1 : -9223372036854775808 ≤ p) (hp2 : p ≤ 9223372036854775807) (hn2 : n ≤ 9223372036854775807) :
    Calls Try.prog 11 #[.int .i64 p, .int .i64 a, .int .i64 n] w (RetV w (powS p a n)) := by
  rcases both_cases p a with ⟨e0, P, A, rfl, rfl, h2, h3, hP, hA⟩ | e0
  · have c0 : (bothE (P : Int) (A : Int) != 0) = false := by rw [e0]; rfl
    have HP := Lib.hid hP
    have HE := Lib.hid e0
    clear hP e0
    by_cases hn : n < 0
    · have HS := Lib.hid (show powS P A n = (0, 2) by unfold powS; rw [if_pos HE.out, if_pos hn])
      go_enter Try.func11, Try.ntmps11
      go_wp2_with fail
      refine (refBoth_any _ _ _ (by omega) (by omega)).mono ?_
      rintro _ w1 ⟨rfl, hb1⟩
      go_wp2
      go_ret2
      exact RetV.mk HS.out hb1
    · obtain ⟨N, rfl⟩ : ∃ N : Nat, n = N := ⟨n.toNat, by omega⟩
      have HS := Lib.hid (show powS P A N = (((A ^ N % P : Nat) : Int), 0) by unfold powS; rw [if_pos HE.out, if_neg hn]; rfl)
      clear hn
      go_enter Try.func11, Try.ntmps11
      go_wp2_with fail
      refine (refBoth_any _ _ _ (by omega) (by omega)).mono ?_
      rintro _ w1 ⟨rfl, hb1⟩
      (go_wp2_with fail; refine (refPower_any P A N _ h2 h3 (by omega) (by omega)).mono ?_; rintro _ w2 ⟨rfl, rfl⟩; have hb2 := hb1)
      go_wp2
      go_ret2
      exact RetV.mk HS.out hb2
  · have c0 : (bothE p a != 0) = true := by rw [bne_iff_ne]; omega
    have HS := Lib.hid (show powS p a n = (0, bothE p a) by unfold powS; rw [if_neg (by omega)])
    clear e0
    go_enter Try.func11, Try.ntmps11
    go_wp2_with fail
    refine (refBoth_any _ _ _ hp1 hp2).mono ?_
    rintro _ w1 ⟨rfl, hb1⟩
    first
      | (go_wp2; go_ret2; exact RetV.mk HS.out hb1)
      | (go_wp2_with fail; refine (refBoth_any _ _ _ hp1 hp2).mono ?_; rintro _ w2 ⟨rfl, hb2⟩; go_wp2; go_ret2; exact RetV.mk HS.out (bstep hb1 hb2))

theorem ringInv_any (p a : Int) (w : World) (hp1 : -9223372036854775808 ≤ p) (hp2 : p ≤ 9223372036854775807) :
    Calls Try.prog 12 #[.int .i64 p, .int .i64 a] w (RetV w (invS p a)) := by
  rcases both_cases p a with ⟨e0, P, A, rfl, rfl, h2, h3, hP, hA⟩ | e0
  · have c0 : (bothE (P : Int) (A : Int) != 0) = false := by rw [e0]; rfl
    have HP := Lib.hid hP
    have HE := Lib.hid e0
    clear hP e0
    by_cases hn : A = 0
    · have HS := Lib.hid (show invS P A = (0, 18) by unfold invS; rw [if_pos HE.out, if_pos (by omega)])
      have c1 : ((A : Int) == 0) = true := by rw [hn]; rfl
      clear hn
      go_enter Try.func12, Try.ntmps12
      go_wp2_with fail
      refine (element_any _ _ _ (by omega) (by omega)).mono ?_
      rintro _ w1 ⟨rfl, hb1⟩
      go_wp2
      go_ret2
      exact RetV.mk HS.out hb1
    · have HS := Lib.hid (show invS P A = (((A ^ (P - 2) % P : Nat) : Int), 0) by unfold invS; rw [if_pos HE.out, if_neg (by omega)]; rfl)
      have c1 : ((A : Int) == 0) = false := by rw [beq_eq_false_iff_ne]; omega
      have g1 : IntKind.i64.wrap ((P : Int) - 2) = ((P - 2 : Nat) : Int) := by rw [IntWalk.i64_in _ (by omega)]; omega
      clear hn
      go_enter Try.func12, Try.ntmps12
      go_wp2_with fail
      refine (element_any _ _ _ (by omega) (by omega)).mono ?_
      rintro _ w1 ⟨rfl, hb1⟩
      (go_wp2_with fail; refine (power_any P A (P - 2) _ h2 h3 (by omega) (by omega)).mono ?_; rintro _ w2 ⟨rfl, hb2'⟩; have hb2 := bstep hb1 hb2')
      go_wp2
      go_ret2
      exact RetV.mk HS.out hb2
  · have c0 : (bothE p a != 0) = true := by rw [bne_iff_ne]; omega
    have HS := Lib.hid (show invS p a = (0, bothE p a) by unfold invS; rw [if_neg (by omega)])
    clear e0
    go_enter Try.func12, Try.ntmps12
    go_wp2_with fail
    refine (element_any _ _ _ hp1 hp2).mono ?_
    rintro _ w1 ⟨rfl, hb1⟩
    first
      | (go_wp2; go_ret2; exact RetV.mk HS.out hb1)
      | (go_wp2_with fail; refine (element_any _ _ _ hp1 hp2).mono ?_; rintro _ w2 ⟨rfl, hb2⟩; go_wp2; go_ret2; exact RetV.mk HS.out (bstep hb1 hb2))
theorem refInv_any (p a : Int) (w : World) (hp1 : -9223372036854775808 ≤ p) (hp2 : p ≤ 9223372036854775807) :
    Calls Try.prog 13 #[.int .i64 p, .int .i64 a] w (RetV w (invS p a)) := by
  rcases both_cases p a with ⟨e0, P, A, rfl, rfl, h2, h3, hP, hA⟩ | e0
  · have c0 : (bothE (P : Int) (A : Int) != 0) = false := by rw [e0]; rfl
    have HP := Lib.hid hP
    have HE := Lib.hid e0
    clear hP e0
    by_cases hn : A = 0
    · have HS := Lib.hid (show invS P A = (0, 18) by unfold invS; rw [if_pos HE.out, if_pos (by omega)])
      have c1 : ((A : Int) == 0) = true := by rw [hn]; rfl
      clear hn
      go_enter Try.func13, Try.ntmps13
      go_wp2_with fail
      refine (refBoth_any _ _ _ (by omega) (by omega)).mono ?_
      rintro _ w1 ⟨rfl, hb1⟩
      go_wp2
      go_ret2
      exact RetV.mk HS.out hb1
    · have HS := Lib.hid (show invS P A = (((A ^ (P - 2) % P : Nat) : Int), 0) by unfold invS; rw [if_pos HE.out, if_neg (by omega)]; rfl)
      have c1 : ((A : Int) == 0) = false := by rw [beq_eq_false_iff_ne]; omega
      have g1 : IntKind.i64.wrap ((P : Int) - 2) = ((P - 2 : Nat) : Int) := by rw [IntWalk.i64_in _ (by omega)]; omega
      clear hn
      go_enter Try.func13, Try.ntmps13
      go_wp2_with fail
      refine (refBoth_any _ _ _ (by omega) (by omega)).mono ?_
      rintro _ w1 ⟨rfl, hb1⟩
      (go_wp2_with fail; refine (refPower_any P A (P - 2) _ h2 h3 (by omega) (by omega)).mono ?_; rintro _ w2 ⟨rfl, rfl⟩; have hb2 := hb1)
      go_wp2
      go_ret2
      exact RetV.mk HS.out hb2
  · have c0 : (bothE p a != 0) = true := by rw [bne_iff_ne]; omega
    have HS := Lib.hid (show invS p a = (0, bothE p a) by unfold invS; rw [if_neg (by omega)])
    clear e0
    go_enter Try.func13, Try.ntmps13
    go_wp2_with fail
    refine (refBoth_any _ _ _ hp1 hp2).mono ?_
    rintro _ w1 ⟨rfl, hb1⟩
    first
      | (go_wp2; go_ret2; exact RetV.mk HS.out hb1)
      | (go_wp2_with fail; refine (refBoth_any _ _ _ hp1 hp2).mono ?_; rintro _ w2 ⟨rfl, hb2⟩; go_wp2; go_ret2; exact RetV.mk HS.out (bstep hb1 hb2))

noncomputable def facS (n : Int) : List Int × Int := if 1 ≤ n ∧ n ≤ 2000000000 then (toI (facs n.toNat), 0) else ([], 2)
theorem facS_in {N : Nat} (h1 : 1 ≤ N) (h2 : N ≤ 2000000000) : facS (N : Int) = (toI (facs N), 0) := by
  unfold facS; rw [if_pos (by omega), Int.toNat_natCast]
theorem facS_out {n : Int} (h : ¬ (1 ≤ n ∧ n ≤ 2000000000)) : facS n = ([], 2) := by unfold facS; rw [if_neg h]
theorem RetFE.nil {w w' : World} {r : List Int × Int} (hr : r = ([], 2)) (hb : Below w.heap.size w w') : RetFE w r (.returned (.tuple #[.slice none 0 0, .int .i64 2])) w' := by
  subst hr; exact ⟨none, 0, rfl, RI.nil, hb⟩
theorem refFacs_any (n : Int) (w : World) (hp1 : -9223372036854775808 ≤ n) (hp2 : n ≤ 9223372036854775807) :
    Calls Try.prog 17 #[.int .i64 n] w (RetFE w (facS n)) := by
  by_cases h : 1 ≤ n ∧ n ≤ 2000000000
  · obtain ⟨N, rfl⟩ : ∃ N : Nat, n = N := ⟨n.toNat, by omega⟩
    rw [facS_in (by omega) (by omega)]
    exact refFactors_any N w (by omega) (by omega)
  · have HS := Lib.hid (facS_out h)
    rcases (show n < 1 ∨ (1 ≤ n ∧ 2000000000 < n) by omega) with h' | ⟨h', h''⟩
    · clear h
      go_enter Try.func17, Try.ntmps17
      go_wp2
      go_ret2
      exact RetFE.nil HS.out (Below.refl _ _)
    · clear h
      go_enter Try.func17, Try.ntmps17
      go_wp2
      go_ret2
      exact RetFE.nil HS.out (Below.refl _ _)
theorem ringFacs_any (n : Int) (w : World) (hp1 : -9223372036854775808 ≤ n) (hp2 : n ≤ 9223372036854775807) :
    Calls Try.prog 16 #[.int .i64 n] w (RetFE w (facS n)) := by
  by_cases h : 1 ≤ n ∧ n ≤ 2000000000
  · obtain ⟨N, rfl⟩ : ∃ N : Nat, n = N := ⟨n.toNat, by omega⟩
    have h1 : 1 ≤ N := by omega
    have h2 : N ≤ 2000000000 := by omega
    have HS := Lib.hid (facS_in h1 h2)
    clear h hp1 hp2
    go_enter Try.func16, Try.ntmps16
    go_wp2_with fail
    refine (factors_any N _ h1 h2).mono ?_
    rintro _ w1 ⟨A1, c1, rfl, r1, hb1⟩
    go_wp2
    go_ret2
    rw [HS.out]
    exact ⟨A1, c1, rfl, r1, hb1⟩
  · have HS := Lib.hid (facS_out h)
    rcases (show n < 1 ∨ (1 ≤ n ∧ 2000000000 < n) by omega) with h' | ⟨h', h''⟩
    · clear h
      go_enter Try.func16, Try.ntmps16
      go_wp2
      go_ret2
      exact RetFE.nil HS.out (Below.refl _ _)
    · clear h
      go_enter Try.func16, Try.ntmps16
      go_wp2
      go_ret2
      exact RetFE.nil HS.out (Below.refl _ _)
end Go.Proofs.Ytnngkghmhbcgeaa
