/-
  Walk of the law AccumOrder.
-/
import Derived.Test.YtjhigfhgchpjcaaAccS
namespace Go.Proofs.Ytjhigfhgchpjcaa
open Go.RowKit Runs Lagc Frac
set_option linter.unusedVariables false
set_option linter.unusedSimpArgs false

set_option maxRecDepth 20000 in
set_option maxHeartbeats 4000000 in
theorem accumOrder_walk (S1 N1 G1 : Option Addr) (x1 y1 z1 : Nat) (a : Acc) (S2 N2 G2 : Option Addr) (x2 y2 z2 : Nat) (b : Acc) (S3 N3 G3 : Option Addr) (x3 y3 z3 : Nat) (c : Acc) (w : World) (ha : RA w S1 N1 G1 a) (ia : InA a) (hb : RA w S2 N2 G2 b) (ib : InA b) (hc : RA w S3 N3 G3 c) (ic : InA c) :
    Calls Try.prog 6 #[.agg #[.slice S1 a.s.length x1, .slice N1 a.n.length y1, .slice G1 a.g.length z1], .agg #[.slice S2 b.s.length x2, .slice N2 b.n.length y2, .slice G2 b.g.length z2], .agg #[.slice S3 c.s.length x3, .slice N3 c.n.length y3, .slice G3 c.g.length z3]] w fun e w' => e = .returned (.bool true) ∧ Below w.heap.size w w' := by
  obtain ⟨w0, hw0⟩ : ∃ w0, w0 = ((w.alloc (.cells #[.slice S1 a.s.length x1, .slice N1 a.n.length y1, .slice G1 a.g.length z1] 25)).alloc (.cells #[.slice S2 b.s.length x2, .slice N2 b.n.length y2, .slice G2 b.g.length z2] 25)).alloc (.cells #[.slice S3 c.s.length x3, .slice N3 c.n.length y3, .slice G3 c.g.length z3] 25) := ⟨_, rfl⟩
  have hB : Below w.heap.size w w0 := by rw [hw0]; exact balloc (balloc (balloc (Below.refl _ _) _) _) _
  have va : VarA w0 w.heap.size S1 N1 G1 x1 y1 z1 a := ⟨by rw [hw0]; exact ((Blk.new _ _ _).alloc _).alloc _, ha.keep hB⟩
  have vb : VarA w0 (w.heap.size + 1) S2 N2 G2 x2 y2 z2 b := ⟨by rw [hw0]; exact (Blk.newAt _ _ (by simp)).alloc _, hb.keep hB⟩
  have vc : VarA w0 (w.heap.size + 2) S3 N3 G3 x3 y3 z3 c := ⟨by rw [hw0]; exact Blk.newAt _ _ (by simp), hc.keep hB⟩
  have HW := Lib.hid hw0
  clear hw0
  have HFA := fun w hx => fit18_any S1 N1 G1 x1 y1 z1 a w hx ia
  have HFB := fun w hx => fit18_any S2 N2 G2 x2 y2 z2 b w hx ib
  have HFC := fun w hx => fit18_any S3 N3 G3 x3 y3 z3 c w hx ic
  by_cases fa : Fine a
  case neg =>
    rw [fit_no fa] at HFA
    clear fa
    go_enter Try.func6, Try.ntmps6
    go_wp2_with fail
    refine (alive18 _).mono ?_
    rintro _ w1 ⟨rfl, hb1⟩
    rw [← HW.out] at hb1
    replace hB := bstep hB hb1
    replace va := va.keep hb1
    replace vb := vb.keep hb1
    replace vc := vc.keep hb1
    have qa0 := (va).c0
    have qa1 := (va).c1
    have qa2 := (va).c2
    have qal := (va).lt
    have qb0 := (vb).c0
    have qb1 := (vb).c1
    have qb2 := (vb).c2
    have qbl := (vb).lt
    have qc0 := (vc).c0
    have qc1 := (vc).c1
    have qc2 := (vc).c2
    have qcl := (vc).lt
    go_wp2_with fail
    refine (HFA _ va.ra).mono ?_
    rintro _ w2 ⟨rfl, hb2⟩
    go_wp2
    go_ret
    exact ⟨rfl, bstep hB hb2⟩
  rw [fit_yes fa] at HFA
  by_cases fb : Fine b
  case neg =>
    rw [fit_no fb] at HFB
    clear fb
    go_enter Try.func6, Try.ntmps6
    go_wp2_with fail
    refine (alive18 _).mono ?_
    rintro _ w1 ⟨rfl, hb1⟩
    rw [← HW.out] at hb1
    replace hB := bstep hB hb1
    replace va := va.keep hb1
    replace vb := vb.keep hb1
    replace vc := vc.keep hb1
    have qa0 := (va).c0
    have qa1 := (va).c1
    have qa2 := (va).c2
    have qal := (va).lt
    have qb0 := (vb).c0
    have qb1 := (vb).c1
    have qb2 := (vb).c2
    have qbl := (vb).lt
    have qc0 := (vc).c0
    have qc1 := (vc).c1
    have qc2 := (vc).c2
    have qcl := (vc).lt
    go_wp2_with fail
    refine (HFA _ va.ra).mono ?_
    rintro _ w2 ⟨rfl, hb2⟩
    replace hB := bstep hB hb2
    replace va := va.keep hb2
    replace vb := vb.keep hb2
    replace vc := vc.keep hb2
    clear qa0 qa1 qa2 qal
    clear qb0 qb1 qb2 qbl
    clear qc0 qc1 qc2 qcl
    have qa0 := (va).c0
    have qa1 := (va).c1
    have qa2 := (va).c2
    have qal := (va).lt
    have qb0 := (vb).c0
    have qb1 := (vb).c1
    have qb2 := (vb).c2
    have qbl := (vb).lt
    have qc0 := (vc).c0
    have qc1 := (vc).c1
    have qc2 := (vc).c2
    have qcl := (vc).lt
    go_wp2_with fail
    refine (HFB _ vb.ra).mono ?_
    rintro _ w3 ⟨rfl, hb3⟩
    go_wp2
    go_ret
    exact ⟨rfl, bstep hB hb3⟩
  rw [fit_yes fb] at HFB
  by_cases fc : Fine c
  case neg =>
    rw [fit_no fc] at HFC
    clear fc
    go_enter Try.func6, Try.ntmps6
    go_wp2_with fail
    refine (alive18 _).mono ?_
    rintro _ w1 ⟨rfl, hb1⟩
    rw [← HW.out] at hb1
    replace hB := bstep hB hb1
    replace va := va.keep hb1
    replace vb := vb.keep hb1
    replace vc := vc.keep hb1
    have qa0 := (va).c0
    have qa1 := (va).c1
    have qa2 := (va).c2
    have qal := (va).lt
    have qb0 := (vb).c0
    have qb1 := (vb).c1
    have qb2 := (vb).c2
    have qbl := (vb).lt
    have qc0 := (vc).c0
    have qc1 := (vc).c1
    have qc2 := (vc).c2
    have qcl := (vc).lt
    go_wp2_with fail
    refine (HFA _ va.ra).mono ?_
    rintro _ w2 ⟨rfl, hb2⟩
    replace hB := bstep hB hb2
    replace va := va.keep hb2
    replace vb := vb.keep hb2
    replace vc := vc.keep hb2
    clear qa0 qa1 qa2 qal
    clear qb0 qb1 qb2 qbl
    clear qc0 qc1 qc2 qcl
    have qa0 := (va).c0
    have qa1 := (va).c1
    have qa2 := (va).c2
    have qal := (va).lt
    have qb0 := (vb).c0
    have qb1 := (vb).c1
    have qb2 := (vb).c2
    have qbl := (vb).lt
    have qc0 := (vc).c0
    have qc1 := (vc).c1
    have qc2 := (vc).c2
    have qcl := (vc).lt
    go_wp2_with fail
    refine (HFB _ vb.ra).mono ?_
    rintro _ w3 ⟨rfl, hb3⟩
    replace hB := bstep hB hb3
    replace va := va.keep hb3
    replace vb := vb.keep hb3
    replace vc := vc.keep hb3
    clear qa0 qa1 qa2 qal
    clear qb0 qb1 qb2 qbl
    clear qc0 qc1 qc2 qcl
    have qa0 := (va).c0
    have qa1 := (va).c1
    have qa2 := (va).c2
    have qal := (va).lt
    have qb0 := (vb).c0
    have qb1 := (vb).c1
    have qb2 := (vb).c2
    have qbl := (vb).lt
    have qc0 := (vc).c0
    have qc1 := (vc).c1
    have qc2 := (vc).c2
    have qcl := (vc).lt
    go_wp2_with fail
    refine (HFC _ vc.ra).mono ?_
    rintro _ w4 ⟨rfl, hb4⟩
    go_wp2
    go_ret
    exact ⟨rfl, bstep hB hb4⟩
  rw [fit_yes fc] at HFC
  have la := fa.ls
  have la2 := fa.ln
  have la3 := fa.lg
  have lb := fb.ls
  have lb2 := fb.ln
  have lb3 := fb.lg
  have lc := fc.ls
  have lc2 := fc.ln
  have lc3 := fc.lg
  have HMAB := Lib.hid (fun w hx hy => accMerge_any S1 N1 G1 S2 N2 G2 x1 y1 z1 x2 y2 z2 a b w hx hy (by omega) (by omega) (by omega) (by omega) (by omega) (by omega))
  have HMBA := Lib.hid (fun w hx hy => accMerge_any S2 N2 G2 S1 N1 G1 x2 y2 z2 x1 y1 z1 b a w hx hy (by omega) (by omega) (by omega) (by omega) (by omega) (by omega))
  have HMBC := Lib.hid (fun w hx hy => accMerge_any S2 N2 G2 S3 N3 G3 x2 y2 z2 x3 y3 z3 b c w hx hy (by omega) (by omega) (by omega) (by omega) (by omega) (by omega))
  rw [← mergeS_comm fa fb] at HMBA
  have HL := Lib.hid (fun h1 h2 => order_law fa fb fc h1 h2)
  have HZF := Lib.hid (fun h => (merge_fine fb fc h).1)
  have HRF := Lib.hid (fun h => (merge_fine fa fb h).1)
  have sR := merge_small fa fb
  have sZ := merge_small fb fc
  have HF := Lib.hid (And.intro fa (And.intro fb fc))
  clear la2 lb2 lc2 fa fb fc
  generalize mergeS a b = R at *
  generalize mergeS b c = Z at *
  go_enter Try.func6, Try.ntmps6
  go_wp2_with fail
  refine (alive18 _).mono ?_
  rintro _ w1 ⟨rfl, hb1⟩
  rw [← HW.out] at hb1
  replace hB := bstep hB hb1
  replace va := va.keep hb1
  replace vb := vb.keep hb1
  replace vc := vc.keep hb1
  have qa0 := (va).c0
  have qa1 := (va).c1
  have qa2 := (va).c2
  have qal := (va).lt
  have qb0 := (vb).c0
  have qb1 := (vb).c1
  have qb2 := (vb).c2
  have qbl := (vb).lt
  have qc0 := (vc).c0
  have qc1 := (vc).c1
  have qc2 := (vc).c2
  have qcl := (vc).lt
  go_wp2_with fail
  refine (HFA _ va.ra).mono ?_
  rintro _ w2 ⟨rfl, hb2⟩
  replace hB := bstep hB hb2
  replace va := va.keep hb2
  replace vb := vb.keep hb2
  replace vc := vc.keep hb2
  clear qa0 qa1 qa2 qal
  clear qb0 qb1 qb2 qbl
  clear qc0 qc1 qc2 qcl
  have qa0 := (va).c0
  have qa1 := (va).c1
  have qa2 := (va).c2
  have qal := (va).lt
  have qb0 := (vb).c0
  have qb1 := (vb).c1
  have qb2 := (vb).c2
  have qbl := (vb).lt
  have qc0 := (vc).c0
  have qc1 := (vc).c1
  have qc2 := (vc).c2
  have qcl := (vc).lt
  go_wp2_with fail
  refine (HFB _ vb.ra).mono ?_
  rintro _ w3 ⟨rfl, hb3⟩
  replace hB := bstep hB hb3
  replace va := va.keep hb3
  replace vb := vb.keep hb3
  replace vc := vc.keep hb3
  clear qa0 qa1 qa2 qal
  clear qb0 qb1 qb2 qbl
  clear qc0 qc1 qc2 qcl
  have qa0 := (va).c0
  have qa1 := (va).c1
  have qa2 := (va).c2
  have qal := (va).lt
  have qb0 := (vb).c0
  have qb1 := (vb).c1
  have qb2 := (vb).c2
  have qbl := (vb).lt
  have qc0 := (vc).c0
  have qc1 := (vc).c1
  have qc2 := (vc).c2
  have qcl := (vc).lt
  go_wp2_with fail
  refine (HFC _ vc.ra).mono ?_
  rintro _ w4 ⟨rfl, hb4⟩
  replace hB := bstep hB hb4
  replace va := va.keep hb4
  replace vb := vb.keep hb4
  replace vc := vc.keep hb4
  clear qa0 qa1 qa2 qal
  clear qb0 qb1 qb2 qbl
  clear qc0 qc1 qc2 qcl
  have qa0 := (va).c0
  have qa1 := (va).c1
  have qa2 := (va).c2
  have qal := (va).lt
  have qb0 := (vb).c0
  have qb1 := (vb).c1
  have qb2 := (vb).c2
  have qbl := (vb).lt
  have qc0 := (vc).c0
  have qc1 := (vc).c1
  have qc2 := (vc).c2
  have qcl := (vc).lt
  go_wp2_with fail
  refine (HMAB.out _ va.ra vb.ra).mono ?_
  rintro _ w5 ⟨S4, N4, G4, x4, y4, z4, rfl, rvx, fx, hb5⟩
  replace hB := bstep hB hb5
  replace va := va.keep hb5
  replace vb := vb.keep hb5
  replace vc := vc.keep hb5
  clear qa0 qa1 qa2 qal
  clear qb0 qb1 qb2 qbl
  clear qc0 qc1 qc2 qcl
  have qa0 := (va).c0
  have qa1 := (va).c1
  have qa2 := (va).c2
  have qal := (va).lt
  have qb0 := (vb).c0
  have qb1 := (vb).c1
  have qb2 := (vb).c2
  have qbl := (vb).lt
  have qc0 := (vc).c0
  have qc1 := (vc).c1
  have qc2 := (vc).c2
  have qcl := (vc).lt
  go_wp2_with fail
  obtain ⟨u5, hu5⟩ : ∃ u5, u5 = w5.alloc (.cells #[.slice S4 R.1.s.length x4, .slice N4 R.1.n.length y4, .slice G4 R.1.g.length z4] 25) := ⟨_, rfl⟩
  have vx : VarA u5 w5.heap.size S4 N4 G4 x4 y4 z4 R.1 := by rw [hu5]; exact VarA.new rvx x4 y4 z4
  have hbu : Below w5.heap.size w5 u5 := by rw [hu5]; exact balloc (Below.refl _ _) _
  rw [← hu5]
  clear hu5
  replace hB := bstep hB hbu
  replace va := va.keep hbu
  replace vb := vb.keep hbu
  replace vc := vc.keep hbu
  clear qa0 qa1 qa2 qal
  clear qb0 qb1 qb2 qbl
  clear qc0 qc1 qc2 qcl
  have qa0 := (va).c0
  have qa1 := (va).c1
  have qa2 := (va).c2
  have qal := (va).lt
  have qb0 := (vb).c0
  have qb1 := (vb).c1
  have qb2 := (vb).c2
  have qbl := (vb).lt
  have qc0 := (vc).c0
  have qc1 := (vc).c1
  have qc2 := (vc).c2
  have qcl := (vc).lt
  clear hbu
  refine (HMBA.out _ vb.ra va.ra).mono ?_
  rintro _ w6 ⟨S5, N5, G5, x5, y5, z5, rfl, rvy, fy, hb6⟩
  replace hB := bstep hB hb6
  replace va := va.keep hb6
  replace vb := vb.keep hb6
  replace vc := vc.keep hb6
  clear qa0 qa1 qa2 qal
  clear qb0 qb1 qb2 qbl
  clear qc0 qc1 qc2 qcl
  have qa0 := (va).c0
  have qa1 := (va).c1
  have qa2 := (va).c2
  have qal := (va).lt
  have qb0 := (vb).c0
  have qb1 := (vb).c1
  have qb2 := (vb).c2
  have qbl := (vb).lt
  have qc0 := (vc).c0
  have qc1 := (vc).c1
  have qc2 := (vc).c2
  have qcl := (vc).lt
  replace vx := vx.keep hb6
  have qx0 := (vx).c0
  have qx1 := (vx).c1
  have qx2 := (vx).c2
  have qxl := (vx).lt
  go_wp2_with fail
  obtain ⟨u6, hu6⟩ : ∃ u6, u6 = w6.alloc (.cells #[.slice S5 R.1.s.length x5, .slice N5 R.1.n.length y5, .slice G5 R.1.g.length z5] 25) := ⟨_, rfl⟩
  have vy : VarA u6 w6.heap.size S5 N5 G5 x5 y5 z5 R.1 := by rw [hu6]; exact VarA.new rvy x5 y5 z5
  have hbu : Below w6.heap.size w6 u6 := by rw [hu6]; exact balloc (Below.refl _ _) _
  rw [← hu6]
  clear hu6
  replace hB := bstep hB hbu
  replace va := va.keep hbu
  replace vb := vb.keep hbu
  replace vc := vc.keep hbu
  clear qa0 qa1 qa2 qal
  clear qb0 qb1 qb2 qbl
  clear qc0 qc1 qc2 qcl
  have qa0 := (va).c0
  have qa1 := (va).c1
  have qa2 := (va).c2
  have qal := (va).lt
  have qb0 := (vb).c0
  have qb1 := (vb).c1
  have qb2 := (vb).c2
  have qbl := (vb).lt
  have qc0 := (vc).c0
  have qc1 := (vc).c1
  have qc2 := (vc).c2
  have qcl := (vc).lt
  replace vx := vx.keep hbu
  clear qx0 qx1 qx2 qxl
  clear hbu
  have HS1 := fun w hx hy => same18_any S4 N4 G4 S5 N5 G5 x4 y4 z4 x5 y5 z5 R.1 R.1 w hx hy (by omega) (by omega) (by omega) (by omega) (by omega) (by omega)
  rw [sameB_self] at HS1
  refine (HS1 _ vx.ra vy.ra).mono ?_
  rintro _ w7 ⟨rfl, hb7⟩
  replace hB := bstep hB hb7
  replace va := va.keep hb7
  replace vb := vb.keep hb7
  replace vc := vc.keep hb7
  clear qa0 qa1 qa2 qal
  clear qb0 qb1 qb2 qbl
  clear qc0 qc1 qc2 qcl
  have qa0 := (va).c0
  have qa1 := (va).c1
  have qa2 := (va).c2
  have qal := (va).lt
  have qb0 := (vb).c0
  have qb1 := (vb).c1
  have qb2 := (vb).c2
  have qbl := (vb).lt
  have qc0 := (vc).c0
  have qc1 := (vc).c1
  have qc2 := (vc).c2
  have qcl := (vc).lt
  replace vx := vx.keep hb7
  clear vy HS1
  have qx0 := (vx).c0
  have qx1 := (vx).c1
  have qx2 := (vx).c2
  have qxl := (vx).lt
  go_wp2_with fail
  refine (HMBC.out _ vb.ra vc.ra).mono ?_
  rintro _ w8 ⟨S6, N6, G6, x6, y6, z6, rfl, rvz, fz, hb8⟩
  replace hB := bstep hB hb8
  replace va := va.keep hb8
  replace vb := vb.keep hb8
  replace vc := vc.keep hb8
  clear qa0 qa1 qa2 qal
  clear qb0 qb1 qb2 qbl
  clear qc0 qc1 qc2 qcl
  have qa0 := (va).c0
  have qa1 := (va).c1
  have qa2 := (va).c2
  have qal := (va).lt
  have qb0 := (vb).c0
  have qb1 := (vb).c1
  have qb2 := (vb).c2
  have qbl := (vb).lt
  have qc0 := (vc).c0
  have qc1 := (vc).c1
  have qc2 := (vc).c2
  have qcl := (vc).lt
  replace vx := vx.keep hb8
  clear qx0 qx1 qx2 qxl
  have qx0 := (vx).c0
  have qx1 := (vx).c1
  have qx2 := (vx).c2
  have qxl := (vx).lt
  by_cases eR : R.2 = 0
  case neg =>
    have eR' : (R.2 != 0) = true := by rw [bne_iff_ne]; exact eR
    go_wp2
    go_ret
    exact ⟨rfl, by (repeat (first | with_reducible exact Below.refl _ _ | assumption | with_reducible refine below_drewN ?_ _ | with_reducible refine Below.drew ?_ | with_reducible refine balloc ?_ _ | (with_reducible refine Below.setCell ?_ ?_ _; rotate_left; focus (first | (simp; done) | (simp; omega) | omega))))⟩
  have eR' : (R.2 != 0) = false := by rw [bne_eq_false_iff_eq]; exact eR
  by_cases eZ : Z.2 = 0
  case neg =>
    have eZ' : (Z.2 != 0) = true := by rw [bne_iff_ne]; exact eZ
    have HER := Lib.hid eR
    clear eR
    go_wp2
    go_ret
    exact ⟨rfl, by (repeat (first | with_reducible exact Below.refl _ _ | assumption | with_reducible refine below_drewN ?_ _ | with_reducible refine Below.drew ?_ | with_reducible refine balloc ?_ _ | (with_reducible refine Below.setCell ?_ ?_ _; rotate_left; focus (first | (simp; done) | (simp; omega) | omega))))⟩
  have eZ' : (Z.2 != 0) = false := by rw [bne_eq_false_iff_eq]; exact eZ
  obtain ⟨HL1, HL2⟩ := HL.out eR eZ
  have fR := HRF.out eR
  have fZ := HZF.out eZ
  obtain ⟨fa, fb, fc⟩ := HF.out
  have HMU := Lib.hid (fun w hx hy => accMerge_any S4 N4 G4 S3 N3 G3 x4 y4 z4 x3 y3 z3 R.1 c w hx hy (by omega) (by omega) (by omega) (by omega) (by rw [fc.ln]; omega) (by omega))
  have HMV := Lib.hid (fun w hx hy => accMerge_any S1 N1 G1 S6 N6 G6 x1 y1 z1 x6 y6 z6 a Z.1 w hx hy (by omega) (by rw [fa.ln]; omega) (by omega) (by omega) (by omega) (by omega))
  have sU := merge_small fR fc
  have sV := merge_small fa fZ
  have HER := Lib.hid eR
  have HEZ := Lib.hid eZ
  have HLL1 := Lib.hid HL1
  have HLL2 := Lib.hid HL2
  clear fa fb fc fR fZ HL1 HL2 eR eZ HL HRF HZF HF
  generalize mergeS R.1 c = U at *
  generalize mergeS a Z.1 = V at *
  go_wp2_with fail
  obtain ⟨u8, hu8⟩ : ∃ u8, u8 = w8.alloc (.cells #[.slice S6 Z.1.s.length x6, .slice N6 Z.1.n.length y6, .slice G6 Z.1.g.length z6] 25) := ⟨_, rfl⟩
  have vz : VarA u8 w8.heap.size S6 N6 G6 x6 y6 z6 Z.1 := by rw [hu8]; exact VarA.new rvz x6 y6 z6
  have hbu : Below w8.heap.size w8 u8 := by rw [hu8]; exact balloc (Below.refl _ _) _
  rw [← hu8]
  clear hu8
  replace hB := bstep hB hbu
  replace va := va.keep hbu
  replace vb := vb.keep hbu
  replace vc := vc.keep hbu
  clear qa0 qa1 qa2 qal
  clear qb0 qb1 qb2 qbl
  clear qc0 qc1 qc2 qcl
  have qa0 := (va).c0
  have qa1 := (va).c1
  have qa2 := (va).c2
  have qal := (va).lt
  have qb0 := (vb).c0
  have qb1 := (vb).c1
  have qb2 := (vb).c2
  have qbl := (vb).lt
  have qc0 := (vc).c0
  have qc1 := (vc).c1
  have qc2 := (vc).c2
  have qcl := (vc).lt
  replace vx := vx.keep hbu
  clear qx0 qx1 qx2 qxl
  clear hbu
  refine (HMU.out _ vx.ra vc.ra).mono ?_
  rintro _ w9 ⟨S7, N7, G7, x7, y7, z7, rfl, rvu, fu, hb9⟩
  replace hB := bstep hB hb9
  replace va := va.keep hb9
  replace vb := vb.keep hb9
  replace vc := vc.keep hb9
  clear qa0 qa1 qa2 qal
  clear qb0 qb1 qb2 qbl
  clear qc0 qc1 qc2 qcl
  have qa0 := (va).c0
  have qa1 := (va).c1
  have qa2 := (va).c2
  have qal := (va).lt
  have qb0 := (vb).c0
  have qb1 := (vb).c1
  have qb2 := (vb).c2
  have qbl := (vb).lt
  have qc0 := (vc).c0
  have qc1 := (vc).c1
  have qc2 := (vc).c2
  have qcl := (vc).lt
  replace vz := vz.keep hb9
  clear vx
  have qz0 := (vz).c0
  have qz1 := (vz).c1
  have qz2 := (vz).c2
  have qzl := (vz).lt
  go_wp2_with fail
  obtain ⟨u9, hu9⟩ : ∃ u9, u9 = w9.alloc (.cells #[.slice S7 U.1.s.length x7, .slice N7 U.1.n.length y7, .slice G7 U.1.g.length z7] 25) := ⟨_, rfl⟩
  have vu : VarA u9 w9.heap.size S7 N7 G7 x7 y7 z7 U.1 := by rw [hu9]; exact VarA.new rvu x7 y7 z7
  have hbu : Below w9.heap.size w9 u9 := by rw [hu9]; exact balloc (Below.refl _ _) _
  rw [← hu9]
  clear hu9
  replace hB := bstep hB hbu
  replace va := va.keep hbu
  replace vb := vb.keep hbu
  replace vc := vc.keep hbu
  clear qa0 qa1 qa2 qal
  clear qb0 qb1 qb2 qbl
  clear qc0 qc1 qc2 qcl
  have qa0 := (va).c0
  have qa1 := (va).c1
  have qa2 := (va).c2
  have qal := (va).lt
  have qb0 := (vb).c0
  have qb1 := (vb).c1
  have qb2 := (vb).c2
  have qbl := (vb).lt
  have qc0 := (vc).c0
  have qc1 := (vc).c1
  have qc2 := (vc).c2
  have qcl := (vc).lt
  replace vz := vz.keep hbu
  clear qz0 qz1 qz2 qzl
  clear hbu
  refine (HMV.out _ va.ra vz.ra).mono ?_
  rintro _ wa ⟨S8, N8, G8, x8, y8, z8, rfl, rvv, fv, hba⟩
  replace hB := bstep hB hba
  replace va := va.keep hba
  replace vb := vb.keep hba
  replace vc := vc.keep hba
  clear qa0 qa1 qa2 qal
  clear qb0 qb1 qb2 qbl
  clear qc0 qc1 qc2 qcl
  have qa0 := (va).c0
  have qa1 := (va).c1
  have qa2 := (va).c2
  have qal := (va).lt
  have qb0 := (vb).c0
  have qb1 := (vb).c1
  have qb2 := (vb).c2
  have qbl := (vb).lt
  have qc0 := (vc).c0
  have qc1 := (vc).c1
  have qc2 := (vc).c2
  have qcl := (vc).lt
  replace vu := vu.keep hba
  have qu0 := (vu).c0
  have qu1 := (vu).c1
  have qu2 := (vu).c2
  have qul := (vu).lt
  by_cases eU : U.2 = 0
  · have eU' : (U.2 != 0) = false := by rw [bne_eq_false_iff_eq]; exact eU
    by_cases eV : V.2 = 0
    · have eV' : (V.2 != 0) = false := by rw [bne_eq_false_iff_eq]; exact eV
      obtain ⟨hUV, hfU⟩ := HLL2.out eU eV
      have HS2 := fun w hx hy => same18_any S7 N7 G7 S8 N8 G8 x7 y7 z7 x8 y8 z8 U.1 V.1 w hx hy (by omega) (by omega) (by omega) (by omega) (by omega) (by omega)
      rw [sameB_iff.2 hUV] at HS2
      have HC2 := fun w hx => refCheck_any S7 N7 G7 x7 y7 z7 U.1 w hx (by omega) (by omega) (by omega) (fine_rg hfU)
      rw [acc_fine.2 hfU] at HC2
      have HEU := Lib.hid eU
      have HEV := Lib.hid eV
      clear eU eV hUV hfU
      go_wp2_with fail
      obtain ⟨ua, hua⟩ : ∃ ua, ua = wa.alloc (.cells #[.slice S8 V.1.s.length x8, .slice N8 V.1.n.length y8, .slice G8 V.1.g.length z8] 25) := ⟨_, rfl⟩
      have vv : VarA ua wa.heap.size S8 N8 G8 x8 y8 z8 V.1 := by rw [hua]; exact VarA.new rvv x8 y8 z8
      have hbu : Below wa.heap.size wa ua := by rw [hua]; exact balloc (Below.refl _ _) _
      rw [← hua]
      clear hua
      replace hB := bstep hB hbu
      replace vu := vu.keep hbu
      clear qa0 qa1 qa2 qal
      clear qb0 qb1 qb2 qbl
      clear qc0 qc1 qc2 qcl
      clear qu0 qu1 qu2 qul
      refine (HS2 _ vu.ra vv.ra).mono ?_
      rintro _ wb ⟨rfl, hbb⟩
      replace vu := vu.keep hbb
      replace hB := bstep hB hbb
      have qu0 := (vu).c0
      have qu1 := (vu).c1
      have qu2 := (vu).c2
      have qul := (vu).lt
      go_wp2_with fail
      refine (HC2 _ vu.ra).mono ?_
      rintro _ wc ⟨rfl, hbc⟩
      go_wp2
      go_ret
      exact ⟨rfl, bstep hB hbc⟩
    · have eV' : (V.2 != 0) = true := by rw [bne_iff_ne]; exact eV
      have h14 : (V.2 == 14) = false := by
        rw [beq_eq_false_iff_ne]
        intro h
        have := HLL1.out.2 h
        omega
      have HEU := Lib.hid eU
      clear eV
      have h15 : (U.2 == 14) = false := by rw [beq_eq_false_iff_ne]; omega
      clear eU
      go_wp2
      go_ret
      exact ⟨rfl, by (repeat (first | with_reducible exact Below.refl _ _ | assumption | with_reducible refine below_drewN ?_ _ | with_reducible refine Below.drew ?_ | with_reducible refine balloc ?_ _ | (with_reducible refine Below.setCell ?_ ?_ _; rotate_left; focus (first | (simp; done) | (simp; omega) | omega))))⟩
  · have eU' : (U.2 != 0) = true := by rw [bne_iff_ne]; exact eU
    have hb14 : (U.2 == 14) = (V.2 == 14) := by rw [Bool.eq_iff_iff, beq_iff_eq, beq_iff_eq]; exact HLL1.out
    clear eU
    have hd : (U.2 == 14) = true ∧ (V.2 == 14) = true ∨ (U.2 == 14) = false ∧ (V.2 == 14) = false := by
      rw [hb14]
      cases (V.2 == 14) <;> simp
    clear hb14
    rcases hd with ⟨h1, h2⟩ | ⟨h1, h2⟩
    all_goals
      go_wp2
      go_ret
      exact ⟨rfl, by (repeat (first | with_reducible exact Below.refl _ _ | assumption | with_reducible refine below_drewN ?_ _ | with_reducible refine Below.drew ?_ | with_reducible refine balloc ?_ _ | (with_reducible refine Below.setCell ?_ ?_ _; rotate_left; focus (first | (simp; done) | (simp; omega) | omega))))⟩
end Go.Proofs.Ytjhigfhgchpjcaa
