/-
  Walk of the law AccumMeans.
-/
import Derived.Test.YtjhigfhgchpjcaaAccT
namespace Go.Proofs.Ytjhigfhgchpjcaa
open Go.RowKit Runs Lagc Frac
set_option linter.unusedVariables false
set_option linter.unusedSimpArgs false

set_option maxRecDepth 20000 in
set_option maxHeartbeats 4000000 in
theorem accumMeans_walk (S1 N1 G1 : Option Addr) (x1 y1 z1 : Nat) (a : Acc) (lag : Int) (w : World) (ha : RA w S1 N1 G1 a) (ia : InA a) (hlag : -9223372036854775808 ≤ lag ∧ lag ≤ 9223372036854775807) :
    Calls Try.prog 8 #[.agg #[.slice S1 a.s.length x1, .slice N1 a.n.length y1, .slice G1 a.g.length z1], .int .i64 lag] w fun e w' => e = .returned (.bool true) ∧ Below w.heap.size w w' := by
  obtain ⟨w0, hw0⟩ : ∃ w0, w0 = w.alloc (.cells #[.slice S1 a.s.length x1, .slice N1 a.n.length y1, .slice G1 a.g.length z1] 25) := ⟨_, rfl⟩
  have hB : Below w.heap.size w w0 := by rw [hw0]; exact balloc (Below.refl _ _) _
  have va : VarA w0 w.heap.size S1 N1 G1 x1 y1 z1 a := ⟨by rw [hw0]; exact Blk.new _ _ _, ha.keep hB⟩
  have HW := Lib.hid hw0
  clear hw0
  have HFA := fun w hx => fit18_any S1 N1 G1 x1 y1 z1 a w hx ia
  by_cases fa : Fine a
  case neg =>
    rw [fit_no fa] at HFA
    clear fa
    go_enter Try.func8, Try.ntmps8
    go_wp2_with fail
    refine (alive18 _).mono ?_
    rintro _ w1 ⟨rfl, hb1⟩
    rw [← HW.out] at hb1
    replace hB := bstep hB hb1
    replace va := va.keep hb1
    have qa0 := (va).c0
    have qa1 := (va).c1
    have qa2 := (va).c2
    have qal := (va).lt
    go_wp2_with fail
    refine (HFA _ va.ra).mono ?_
    rintro _ w2 ⟨rfl, hb2⟩
    go_wp2
    go_ret
    exact ⟨rfl, bstep hB hb2⟩
  rw [fit_yes fa] at HFA
  have l1 := fa.ls
  have l2 : a.n.length ≤ 511 := by rw [fa.ln]; exact fa.ls
  have l3 := fa.lg
  have HMM := Lib.hid (fun w hx hy => accMerge_any S1 N1 G1 S1 N1 G1 x1 y1 z1 x1 y1 z1 a a w hx hy (by omega) (by omega) (by omega) (by omega) (by omega) (by omega))
  have HV := Lib.hid (fun w hx => accValue_any S1 N1 G1 x1 y1 z1 a lag w hx (by omega) (by omega) (by omega) hlag)
  have HM := Lib.hid (fun w hx => accMean_any S1 N1 G1 x1 y1 z1 a lag w hx (by omega) (by omega) (by omega) hlag)
  have HT := self_twice fa
  have HB := Lib.hid (fun h => valS_bd (a := a) (lag := lag) h)
  have HD := Lib.hid (show meanS a lag = if (valS a lag).2 ≠ 0 then ((0, 0), (valS a lag).2) else if (valS a lag).1.2 = 0 then ((0, 0), 18) else (frcS (valS a lag).1.1 (valS a lag).1.2, 0) from rfl)
  generalize mergeS a a = R at *
  generalize meanS a lag = M at *
  generalize valS a lag = V at *
  clear fa
  have hg : (0 < a.g.length ∧ R.2 = 14) ∨ (a.g.length = 0 ∧ R.2 ≠ 14) := by
    by_cases h : a.g = []
    · refine .inr ⟨by rw [h]; rfl, fun e => ?_⟩
      exact HT.1 e h
    · exact .inl ⟨List.length_pos_iff.2 h, HT.2 h⟩
  have hgt : ((0 < a.g.length ∧ (R.2 != 14) = false) ∧ (R.2 == 14) = true ∧ ((a.g.length : Int) == 0) = false) ∨ (((a.g.length : Int) == 0) = true ∧ (¬ 0 < a.g.length) ∧ (R.2 == 14) = false) := by
    rcases hg with ⟨h1, h2⟩ | ⟨h1, h2⟩
    · exact .inl ⟨⟨h1, by rw [h2]; rfl⟩, by rw [h2]; rfl, by rw [beq_eq_false_iff_ne]; omega⟩
    · exact .inr ⟨by rw [beq_iff_eq]; omega, by omega, by rw [beq_eq_false_iff_ne]; exact h2⟩
  clear hg HT
  obtain ⟨⟨s, n⟩, E⟩ := V
  obtain ⟨C, F⟩ := M
  have hcs : (E ≠ 0 ∧ F = E) ∨ (E = 0 ∧ n = 0 ∧ F = 18) ∨ (E = 0 ∧ n ≠ 0 ∧ F = 0 ∧ C = frcS s n) := by
    have := HD.out
    by_cases hE : E = 0
    · subst hE
      by_cases hn : n = 0
      · subst hn
        simp at this
        exact .inr (.inl ⟨rfl, rfl, this.2⟩)
      · simp [hn] at this
        exact .inr (.inr ⟨rfl, hn, this.2, this.1⟩)
    · simp [hE] at this
      exact .inl ⟨hE, this.2⟩
  clear HD
  rcases hcs with ⟨h1, h2⟩ | ⟨h1, h2, h3⟩ | ⟨h1, h2, h3, h4⟩
  · have e1 : (E != 0) = true := by rw [bne_iff_ne]; exact h1
    subst h2
    clear h1
    rcases hgt with ⟨⟨g1, g2⟩, g3, g4⟩ | ⟨g1, g2, g3⟩
    all_goals
      go_enter Try.func8, Try.ntmps8
      go_wp2_with fail
      refine (alive18 _).mono ?_
      rintro _ w1 ⟨rfl, hb1⟩
      rw [← HW.out] at hb1
      replace hB := bstep hB hb1
      replace va := va.keep hb1
      have qa0 := (va).c0
      have qa1 := (va).c1
      have qa2 := (va).c2
      have qal := (va).lt
      go_wp2_with fail
      refine (HFA _ va.ra).mono ?_
      rintro _ w2 ⟨rfl, hb2⟩
      replace hB := bstep hB hb2
      replace va := va.keep hb2
      clear qa0 qa1 qa2 qal
      have qa0 := (va).c0
      have qa1 := (va).c1
      have qa2 := (va).c2
      have qal := (va).lt
      go_wp2_with fail
      refine (HMM.out _ va.ra va.ra).mono ?_
      rintro _ w3 ⟨S4, N4, G4, x4, y4, z4, rfl, rvx, fx, hb3⟩
      replace hB := bstep hB hb3
      replace va := va.keep hb3
      clear qa0 qa1 qa2 qal
      have qa0 := (va).c0
      have qa1 := (va).c1
      have qa2 := (va).c2
      have qal := (va).lt
      go_wp2_with fail
      obtain ⟨u3, hu3⟩ : ∃ u3, u3 = w3.alloc (.cells #[.slice S4 R.1.s.length x4, .slice N4 R.1.n.length y4, .slice G4 R.1.g.length z4] 25) := ⟨_, rfl⟩
      have hbu : Below w3.heap.size w3 u3 := by rw [hu3]; exact balloc (Below.refl _ _) _
      rw [← hu3]
      clear hu3
      replace hB := bstep hB hbu
      replace va := va.keep hbu
      clear qa0 qa1 qa2 qal
      have qa0 := (va).c0
      have qa1 := (va).c1
      have qa2 := (va).c2
      have qal := (va).lt
      refine (HV.out _ va.ra).mono ?_
      rintro _ w4 ⟨rfl, hb4⟩
      replace hB := bstep hB hb4
      replace va := va.keep hb4
      clear qa0 qa1 qa2 qal
      have qa0 := (va).c0
      have qa1 := (va).c1
      have qa2 := (va).c2
      have qal := (va).lt
      go_wp2_with fail
      refine (HM.out _ va.ra).mono ?_
      rintro _ w5 ⟨rfl, hb5⟩
      replace hB := bstep hB hb5
      replace va := va.keep hb5
      clear qa0 qa1 qa2 qal
      have qa0 := (va).c0
      have qa1 := (va).c1
      have qa2 := (va).c2
      have qal := (va).lt
      go_wp2
      go_ret
      exact ⟨rfl, by (repeat (first | with_reducible exact Below.refl _ _ | assumption | with_reducible refine below_drewN ?_ _ | with_reducible refine Below.drew ?_ | with_reducible refine balloc ?_ _ | (with_reducible refine Below.setCell ?_ ?_ _; rotate_left; focus (first | (simp; done) | (simp; omega) | omega))))⟩
  · subst h1; subst h2; subst h3
    rcases hgt with ⟨⟨g1, g2⟩, g3, g4⟩ | ⟨g1, g2, g3⟩
    all_goals
      go_enter Try.func8, Try.ntmps8
      go_wp2_with fail
      refine (alive18 _).mono ?_
      rintro _ w1 ⟨rfl, hb1⟩
      rw [← HW.out] at hb1
      replace hB := bstep hB hb1
      replace va := va.keep hb1
      have qa0 := (va).c0
      have qa1 := (va).c1
      have qa2 := (va).c2
      have qal := (va).lt
      go_wp2_with fail
      refine (HFA _ va.ra).mono ?_
      rintro _ w2 ⟨rfl, hb2⟩
      replace hB := bstep hB hb2
      replace va := va.keep hb2
      clear qa0 qa1 qa2 qal
      have qa0 := (va).c0
      have qa1 := (va).c1
      have qa2 := (va).c2
      have qal := (va).lt
      go_wp2_with fail
      refine (HMM.out _ va.ra va.ra).mono ?_
      rintro _ w3 ⟨S4, N4, G4, x4, y4, z4, rfl, rvx, fx, hb3⟩
      replace hB := bstep hB hb3
      replace va := va.keep hb3
      clear qa0 qa1 qa2 qal
      have qa0 := (va).c0
      have qa1 := (va).c1
      have qa2 := (va).c2
      have qal := (va).lt
      go_wp2_with fail
      obtain ⟨u3, hu3⟩ : ∃ u3, u3 = w3.alloc (.cells #[.slice S4 R.1.s.length x4, .slice N4 R.1.n.length y4, .slice G4 R.1.g.length z4] 25) := ⟨_, rfl⟩
      have hbu : Below w3.heap.size w3 u3 := by rw [hu3]; exact balloc (Below.refl _ _) _
      rw [← hu3]
      clear hu3
      replace hB := bstep hB hbu
      replace va := va.keep hbu
      clear qa0 qa1 qa2 qal
      have qa0 := (va).c0
      have qa1 := (va).c1
      have qa2 := (va).c2
      have qal := (va).lt
      refine (HV.out _ va.ra).mono ?_
      rintro _ w4 ⟨rfl, hb4⟩
      replace hB := bstep hB hb4
      replace va := va.keep hb4
      clear qa0 qa1 qa2 qal
      have qa0 := (va).c0
      have qa1 := (va).c1
      have qa2 := (va).c2
      have qal := (va).lt
      go_wp2_with fail
      refine (HM.out _ va.ra).mono ?_
      rintro _ w5 ⟨rfl, hb5⟩
      replace hB := bstep hB hb5
      replace va := va.keep hb5
      clear qa0 qa1 qa2 qal
      have qa0 := (va).c0
      have qa1 := (va).c1
      have qa2 := (va).c2
      have qal := (va).lt
      go_wp2
      go_ret
      exact ⟨rfl, by (repeat (first | with_reducible exact Below.refl _ _ | assumption | with_reducible refine below_drewN ?_ _ | with_reducible refine Below.drew ?_ | with_reducible refine balloc ?_ _ | (with_reducible refine Below.setCell ?_ ?_ _; rotate_left; focus (first | (simp; done) | (simp; omega) | omega))))⟩
  · have e1 : (n == 0) = false := by rw [beq_eq_false_iff_ne]; exact h2
    have hbd := HB.out h1
    simp only [] at hbd
    have HK := Lib.hid (fun w => refMake_any s n w hbd.1 (by omega))
    subst h1; subst h3
    rw [← h4] at HK
    have gE := eqg_frac
    have gF := fun w => eqf_frac C C w
    rw [decide_eq_true rfl] at gF
    clear h2 h4 HB hbd
    rcases hgt with ⟨⟨g1, g2⟩, g3, g4⟩ | ⟨g1, g2, g3⟩
    all_goals
      go_enter Try.func8, Try.ntmps8
      go_wp2_with fail
      refine (alive18 _).mono ?_
      rintro _ w1 ⟨rfl, hb1⟩
      rw [← HW.out] at hb1
      replace hB := bstep hB hb1
      replace va := va.keep hb1
      have qa0 := (va).c0
      have qa1 := (va).c1
      have qa2 := (va).c2
      have qal := (va).lt
      go_wp2_with fail
      refine (HFA _ va.ra).mono ?_
      rintro _ w2 ⟨rfl, hb2⟩
      replace hB := bstep hB hb2
      replace va := va.keep hb2
      clear qa0 qa1 qa2 qal
      have qa0 := (va).c0
      have qa1 := (va).c1
      have qa2 := (va).c2
      have qal := (va).lt
      go_wp2_with fail
      refine (HMM.out _ va.ra va.ra).mono ?_
      rintro _ w3 ⟨S4, N4, G4, x4, y4, z4, rfl, rvx, fx, hb3⟩
      replace hB := bstep hB hb3
      replace va := va.keep hb3
      clear qa0 qa1 qa2 qal
      have qa0 := (va).c0
      have qa1 := (va).c1
      have qa2 := (va).c2
      have qal := (va).lt
      go_wp2_with fail
      obtain ⟨u3, hu3⟩ : ∃ u3, u3 = w3.alloc (.cells #[.slice S4 R.1.s.length x4, .slice N4 R.1.n.length y4, .slice G4 R.1.g.length z4] 25) := ⟨_, rfl⟩
      have hbu : Below w3.heap.size w3 u3 := by rw [hu3]; exact balloc (Below.refl _ _) _
      rw [← hu3]
      clear hu3
      replace hB := bstep hB hbu
      replace va := va.keep hbu
      clear qa0 qa1 qa2 qal
      have qa0 := (va).c0
      have qa1 := (va).c1
      have qa2 := (va).c2
      have qal := (va).lt
      refine (HV.out _ va.ra).mono ?_
      rintro _ w4 ⟨rfl, hb4⟩
      replace hB := bstep hB hb4
      replace va := va.keep hb4
      clear qa0 qa1 qa2 qal
      have qa0 := (va).c0
      have qa1 := (va).c1
      have qa2 := (va).c2
      have qal := (va).lt
      go_wp2_with fail
      refine (HM.out _ va.ra).mono ?_
      rintro _ w5 ⟨rfl, hb5⟩
      replace hB := bstep hB hb5
      replace va := va.keep hb5
      clear qa0 qa1 qa2 qal
      have qa0 := (va).c0
      have qa1 := (va).c1
      have qa2 := (va).c2
      have qal := (va).lt
      go_wp2_with fail
      obtain ⟨u5, hu5⟩ : ∃ u5, u5 = w5.alloc (.cells #[.int .i64 C.1, .int .i64 C.2] 49) := ⟨_, rfl⟩
      have hbv : Below w5.heap.size w5 u5 := by rw [hu5]; exact balloc (Below.refl _ _) _
      have vm : Blk u5 w5.heap.size 49 #[.int .i64 C.1, .int .i64 C.2] := by rw [hu5]; exact Blk.new _ _ _
      rw [← hu5]
      clear hu5
      replace hB := bstep hB hbv
      replace va := va.keep hbv
      clear qa0 qa1 qa2 qal
      have qa0 := (va).c0
      have qa1 := (va).c1
      have qa2 := (va).c2
      have qal := (va).lt
      refine (HK.out _).mono ?_
      rintro _ w6 ⟨rfl, hb6⟩
      replace hB := bstep hB hb6
      replace vm := vm.keep hb6
      have p0 : World.cell? w6 ⟨w5.heap.size, 0, none⟩ = some (.int .i64 C.1) := vm.cell 0
      have pf0 := vm.frozen 0
      have p1 : World.cell? w6 ⟨w5.heap.size, 1, none⟩ = some (.int .i64 C.2) := vm.cell 1
      have pf1 := vm.frozen 1
      have pfl := vm.lt
      go_wp2
      go_ret
      exact ⟨rfl, by (repeat (first | with_reducible exact Below.refl _ _ | assumption | with_reducible refine below_drewN ?_ _ | with_reducible refine Below.drew ?_ | with_reducible refine balloc ?_ _ | (with_reducible refine Below.setCell ?_ ?_ _; rotate_left; focus (first | (simp; done) | (simp; omega) | omega))))⟩
end Go.Proofs.Ytjhigfhgchpjcaa
