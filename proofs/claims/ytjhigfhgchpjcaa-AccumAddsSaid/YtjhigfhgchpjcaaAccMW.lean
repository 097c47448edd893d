/-
  Walk of the law AccumMerges.
-/
import Derived.Test.YtjhigfhgchpjcaaAccZ2
import Derived.Test.YtjhigfhgchpjcaaAccS
namespace Go.Proofs.Ytjhigfhgchpjcaa
open Go.RowKit Runs Lagc Frac
set_option linter.unusedVariables false
set_option linter.unusedSimpArgs false

theorem merge_small_any (a b : Acc) : (mergeS a b).1.s.length ≤ 511 ∧ (mergeS a b).1.n.length ≤ 511 ∧ (mergeS a b).1.g.length ≤ 64 := by
  by_cases ea : accErr a = 0
  · by_cases eb : accErr b = 0
    · exact merge_small (acc_fine.1 ea) (acc_fine.1 eb)
    · rw [mergeS_e2 ea eb]; simp [Acc.none]
  · rw [mergeS_e1 ea]; simp [Acc.none]
set_option maxRecDepth 20000 in
set_option maxHeartbeats 4000000 in
theorem accumMerges_walk (S1 N1 G1 : Option Addr) (x1 y1 z1 : Nat) (a : Acc) (S2 N2 G2 : Option Addr) (x2 y2 z2 : Nat) (b : Acc) (lag : Int) (w : World) (ha : RA w S1 N1 G1 a) (ia : InA a) (hb : RA w S2 N2 G2 b) (ib : InA b) (hlag : -9223372036854775808 ≤ lag ∧ lag ≤ 9223372036854775807) :
    Calls Try.prog 4 #[.agg #[.slice S1 a.s.length x1, .slice N1 a.n.length y1, .slice G1 a.g.length z1], .agg #[.slice S2 b.s.length x2, .slice N2 b.n.length y2, .slice G2 b.g.length z2], .int .i64 lag] w fun e w' => e = .returned (.bool true) ∧ Below w.heap.size w w' := by
  obtain ⟨w0, hw0⟩ : ∃ w0, w0 = (w.alloc (.cells #[.slice S1 a.s.length x1, .slice N1 a.n.length y1, .slice G1 a.g.length z1] 25)).alloc (.cells #[.slice S2 b.s.length x2, .slice N2 b.n.length y2, .slice G2 b.g.length z2] 25) := ⟨_, rfl⟩
  have hB : Below w.heap.size w w0 := by rw [hw0]; exact balloc (balloc (Below.refl _ _) _) _
  have va : VarA w0 w.heap.size S1 N1 G1 x1 y1 z1 a := ⟨by rw [hw0]; exact (Blk.new _ _ _).alloc _, ha.keep hB⟩
  have vb : VarA w0 (w.heap.size + 1) S2 N2 G2 x2 y2 z2 b := ⟨by rw [hw0]; exact Blk.newAt _ _ (by simp), hb.keep hB⟩
  have HW := Lib.hid hw0
  clear hw0
  have HGA := fun w => great_any S1 N1 G1 x1 y1 z1 a w
  have HGB := fun w => great_any S2 N2 G2 x2 y2 z2 b w
  by_cases ga : greatB a = true
  · rw [ga] at HGA
    clear ga
    go_enter Try.func4, Try.ntmps4
    go_wp2_with fail
    rw [← HW.out]
    refine (HGA _).mono ?_
    rintro _ w1 ⟨rfl, hb1⟩
    go_wp2
    go_ret
    exact ⟨rfl, bstep hB hb1⟩
  have ga' : greatB a = false := by simpa using ga
  rw [ga'] at HGA
  obtain ⟨l1, l2, l3⟩ := great_no ga'
  clear ga ga'
  by_cases gb : greatB b = true
  · rw [gb] at HGB
    clear gb
    go_enter Try.func4, Try.ntmps4
    go_wp2_with fail
    rw [← HW.out]
    refine (HGA _).mono ?_
    rintro _ w1 ⟨rfl, hb1⟩
    have qa0 := (va).c0
    have qa1 := (va).c1
    have qa2 := (va).c2
    have qal := (va).lt
    have qb0 := (vb).c0
    have qb1 := (vb).c1
    have qb2 := (vb).c2
    have qbl := (vb).lt
    replace hB := bstep hB hb1
    replace va := va.keep hb1
    replace vb := vb.keep hb1
    clear qa0 qa1 qa2 qal
    clear qb0 qb1 qb2 qbl
    have qa0 := (va).c0
    have qa1 := (va).c1
    have qa2 := (va).c2
    have qal := (va).lt
    have qb0 := (vb).c0
    have qb1 := (vb).c1
    have qb2 := (vb).c2
    have qbl := (vb).lt
    go_wp2_with fail
    refine (HGB _).mono ?_
    rintro _ w2 ⟨rfl, hb2⟩
    go_wp2
    go_ret
    exact ⟨rfl, bstep hB hb2⟩
  have gb' : greatB b = false := by simpa using gb
  rw [gb'] at HGB
  obtain ⟨m1, m2, m3⟩ := great_no gb'
  clear gb gb'
  have HM1 := Lib.hid (fun w hx hy => accMerge_any S1 N1 G1 S2 N2 G2 x1 y1 z1 x2 y2 z2 a b w hx hy (by omega) (by omega) (by omega) (by omega) (by omega) (by omega))
  have HM2 := Lib.hid (fun w hx hy => refMerge_any S1 N1 G1 S2 N2 G2 x1 y1 z1 x2 y2 z2 a b w hx hy (by omega) (by omega) (by omega) (by omega) (by omega) (by omega) ia.rg ib.rg)
  have HV1 := Lib.hid (fun w hx => accValue_any S1 N1 G1 x1 y1 z1 a lag w hx (by omega) (by omega) (by omega) hlag)
  have HV2 := Lib.hid (fun w hx => refValue_any S1 N1 G1 x1 y1 z1 a lag w hx (by omega) (by omega) (by omega) ia.rg hlag)
  have HN1 := Lib.hid (fun w hx => accMean_any S1 N1 G1 x1 y1 z1 a lag w hx (by omega) (by omega) (by omega) hlag)
  have HN2 := Lib.hid (fun w hx => refMean_any S1 N1 G1 x1 y1 z1 a lag w hx (by omega) (by omega) (by omega) ia.rg hlag)
  have HT1 := Lib.hid (fun w hx => accTimes_any S1 N1 G1 x1 y1 z1 a w hx (by omega) (by omega) (by omega))
  have HT2 := Lib.hid (fun w hx => refTimes_any S1 N1 G1 x1 y1 z1 a w hx (by omega) (by omega) (by omega) ia.rg)
  have sR := merge_small_any a b
  generalize mergeS a b = R at *
  generalize valS a lag = V at *
  generalize meanS a lag = M at *
  generalize timS a = T at *
  obtain ⟨⟨vs, vn⟩, ve⟩ := V
  obtain ⟨mc, me⟩ := M
  obtain ⟨ts, te⟩ := T
  have gE := eqg_frac
  have gF := fun w => eqf_frac mc mc w
  rw [decide_eq_true rfl] at gF
  go_enter Try.func4, Try.ntmps4
  go_wp2_with fail
  rw [← HW.out]
  refine (HGA _).mono ?_
  rintro _ w1 ⟨rfl, hb1⟩
  have qa0 := (va).c0
  have qa1 := (va).c1
  have qa2 := (va).c2
  have qal := (va).lt
  have qb0 := (vb).c0
  have qb1 := (vb).c1
  have qb2 := (vb).c2
  have qbl := (vb).lt
  replace hB := bstep hB hb1
  replace va := va.keep hb1
  replace vb := vb.keep hb1
  clear qa0 qa1 qa2 qal
  clear qb0 qb1 qb2 qbl
  have qa0 := (va).c0
  have qa1 := (va).c1
  have qa2 := (va).c2
  have qal := (va).lt
  have qb0 := (vb).c0
  have qb1 := (vb).c1
  have qb2 := (vb).c2
  have qbl := (vb).lt
  go_wp2_with fail
  refine (HGB _).mono ?_
  rintro _ w2 ⟨rfl, hb2⟩
  replace hB := bstep hB hb2
  replace va := va.keep hb2
  replace vb := vb.keep hb2
  clear qa0 qa1 qa2 qal
  clear qb0 qb1 qb2 qbl
  have qa0 := (va).c0
  have qa1 := (va).c1
  have qa2 := (va).c2
  have qal := (va).lt
  have qb0 := (vb).c0
  have qb1 := (vb).c1
  have qb2 := (vb).c2
  have qbl := (vb).lt
  go_wp2_with fail
  refine (HM1.out _ va.ra vb.ra).mono ?_
  rintro _ w3 ⟨S3, N3, G3, x3, y3, z3, rfl, rvx, fx, hb3⟩
  replace hB := bstep hB hb3
  replace va := va.keep hb3
  replace vb := vb.keep hb3
  clear qa0 qa1 qa2 qal
  clear qb0 qb1 qb2 qbl
  have qa0 := (va).c0
  have qa1 := (va).c1
  have qa2 := (va).c2
  have qal := (va).lt
  have qb0 := (vb).c0
  have qb1 := (vb).c1
  have qb2 := (vb).c2
  have qbl := (vb).lt
  go_wp2_with fail
  obtain ⟨u3, hu3⟩ : ∃ u3, u3 = w3.alloc (.cells #[.slice S3 R.1.s.length x3, .slice N3 R.1.n.length y3, .slice G3 R.1.g.length z3] 25) := ⟨_, rfl⟩
  have vx : VarA u3 w3.heap.size S3 N3 G3 x3 y3 z3 R.1 := by rw [hu3]; exact VarA.new rvx x3 y3 z3
  have hbu : Below w3.heap.size w3 u3 := by rw [hu3]; exact balloc (Below.refl _ _) _
  rw [← hu3]
  clear hu3
  replace hB := bstep hB hbu
  replace va := va.keep hbu
  replace vb := vb.keep hbu
  clear qa0 qa1 qa2 qal
  clear qb0 qb1 qb2 qbl
  have qa0 := (va).c0
  have qa1 := (va).c1
  have qa2 := (va).c2
  have qal := (va).lt
  have qb0 := (vb).c0
  have qb1 := (vb).c1
  have qb2 := (vb).c2
  have qbl := (vb).lt
  clear hbu
  refine (HM2.out _ va.ra vb.ra).mono ?_
  rintro _ w4 ⟨S4, N4, G4, x4, y4, z4, rfl, rvy, fy, hb4⟩
  replace hB := bstep hB hb4
  replace va := va.keep hb4
  replace vb := vb.keep hb4
  clear qa0 qa1 qa2 qal
  clear qb0 qb1 qb2 qbl
  have qa0 := (va).c0
  have qa1 := (va).c1
  have qa2 := (va).c2
  have qal := (va).lt
  have qb0 := (vb).c0
  have qb1 := (vb).c1
  have qb2 := (vb).c2
  have qbl := (vb).lt
  replace vx := vx.keep hb4
  go_wp2_with fail
  obtain ⟨u4, hu4⟩ : ∃ u4, u4 = w4.alloc (.cells #[.slice S4 R.1.s.length x4, .slice N4 R.1.n.length y4, .slice G4 R.1.g.length z4] 25) := ⟨_, rfl⟩
  have vy : VarA u4 w4.heap.size S4 N4 G4 x4 y4 z4 R.1 := by rw [hu4]; exact VarA.new rvy x4 y4 z4
  have hbu : Below w4.heap.size w4 u4 := by rw [hu4]; exact balloc (Below.refl _ _) _
  rw [← hu4]
  clear hu4
  replace hB := bstep hB hbu
  replace va := va.keep hbu
  replace vb := vb.keep hbu
  clear qa0 qa1 qa2 qal
  clear qb0 qb1 qb2 qbl
  have qa0 := (va).c0
  have qa1 := (va).c1
  have qa2 := (va).c2
  have qal := (va).lt
  have qb0 := (vb).c0
  have qb1 := (vb).c1
  have qb2 := (vb).c2
  have qbl := (vb).lt
  replace vx := vx.keep hbu
  clear hbu
  refine (HV1.out _ va.ra).mono ?_
  rintro _ w5 ⟨rfl, hb5⟩
  replace hB := bstep hB hb5
  replace va := va.keep hb5
  replace vb := vb.keep hb5
  clear qa0 qa1 qa2 qal
  clear qb0 qb1 qb2 qbl
  have qa0 := (va).c0
  have qa1 := (va).c1
  have qa2 := (va).c2
  have qal := (va).lt
  have qb0 := (vb).c0
  have qb1 := (vb).c1
  have qb2 := (vb).c2
  have qbl := (vb).lt
  replace vx := vx.keep hb5
  replace vy := vy.keep hb5
  go_wp2_with fail
  refine (HV2.out _ va.ra).mono ?_
  rintro _ w6 ⟨rfl, hb6⟩
  replace hB := bstep hB hb6
  replace va := va.keep hb6
  replace vb := vb.keep hb6
  clear qa0 qa1 qa2 qal
  clear qb0 qb1 qb2 qbl
  have qa0 := (va).c0
  have qa1 := (va).c1
  have qa2 := (va).c2
  have qal := (va).lt
  have qb0 := (vb).c0
  have qb1 := (vb).c1
  have qb2 := (vb).c2
  have qbl := (vb).lt
  replace vx := vx.keep hb6
  replace vy := vy.keep hb6
  go_wp2_with fail
  refine (HN1.out _ va.ra).mono ?_
  rintro _ w7 ⟨rfl, hb7⟩
  replace hB := bstep hB hb7
  replace va := va.keep hb7
  replace vb := vb.keep hb7
  clear qa0 qa1 qa2 qal
  clear qb0 qb1 qb2 qbl
  have qa0 := (va).c0
  have qa1 := (va).c1
  have qa2 := (va).c2
  have qal := (va).lt
  have qb0 := (vb).c0
  have qb1 := (vb).c1
  have qb2 := (vb).c2
  have qbl := (vb).lt
  replace vx := vx.keep hb7
  replace vy := vy.keep hb7
  go_wp2_with fail
  obtain ⟨u7, hu7⟩ : ∃ u7, u7 = w7.alloc (.cells #[.int .i64 mc.1, .int .i64 mc.2] 49) := ⟨_, rfl⟩
  have hbu : Below w7.heap.size w7 u7 := by rw [hu7]; exact balloc (Below.refl _ _) _
  have vp : Blk u7 w7.heap.size 49 #[.int .i64 mc.1, .int .i64 mc.2] := by rw [hu7]; exact Blk.new _ _ _
  rw [← hu7]
  clear hu7
  replace hB := bstep hB hbu
  replace va := va.keep hbu
  replace vb := vb.keep hbu
  clear qa0 qa1 qa2 qal
  clear qb0 qb1 qb2 qbl
  have qa0 := (va).c0
  have qa1 := (va).c1
  have qa2 := (va).c2
  have qal := (va).lt
  have qb0 := (vb).c0
  have qb1 := (vb).c1
  have qb2 := (vb).c2
  have qbl := (vb).lt
  replace vx := vx.keep hbu
  replace vy := vy.keep hbu
  clear hbu
  refine (HN2.out _ va.ra).mono ?_
  rintro _ w8 ⟨rfl, hb8⟩
  replace hB := bstep hB hb8
  replace va := va.keep hb8
  replace vb := vb.keep hb8
  clear qa0 qa1 qa2 qal
  clear qb0 qb1 qb2 qbl
  have qa0 := (va).c0
  have qa1 := (va).c1
  have qa2 := (va).c2
  have qal := (va).lt
  have qb0 := (vb).c0
  have qb1 := (vb).c1
  have qb2 := (vb).c2
  have qbl := (vb).lt
  replace vx := vx.keep hb8
  replace vy := vy.keep hb8
  replace vp := vp.keep hb8
  go_wp2_with fail
  obtain ⟨u8, hu8⟩ : ∃ u8, u8 = w8.alloc (.cells #[.int .i64 mc.1, .int .i64 mc.2] 49) := ⟨_, rfl⟩
  have hbu : Below w8.heap.size w8 u8 := by rw [hu8]; exact balloc (Below.refl _ _) _
  have vq : Blk u8 w8.heap.size 49 #[.int .i64 mc.1, .int .i64 mc.2] := by rw [hu8]; exact Blk.new _ _ _
  rw [← hu8]
  clear hu8
  replace hB := bstep hB hbu
  replace va := va.keep hbu
  replace vb := vb.keep hbu
  clear qa0 qa1 qa2 qal
  clear qb0 qb1 qb2 qbl
  have qa0 := (va).c0
  have qa1 := (va).c1
  have qa2 := (va).c2
  have qal := (va).lt
  have qb0 := (vb).c0
  have qb1 := (vb).c1
  have qb2 := (vb).c2
  have qbl := (vb).lt
  replace vx := vx.keep hbu
  replace vy := vy.keep hbu
  replace vp := vp.keep hbu
  clear hbu
  refine (HT1.out _ va.ra).mono ?_
  rintro _ w9 ⟨rfl, hb9⟩
  replace hB := bstep hB hb9
  replace va := va.keep hb9
  replace vb := vb.keep hb9
  clear qa0 qa1 qa2 qal
  clear qb0 qb1 qb2 qbl
  have qa0 := (va).c0
  have qa1 := (va).c1
  have qa2 := (va).c2
  have qal := (va).lt
  have qb0 := (vb).c0
  have qb1 := (vb).c1
  have qb2 := (vb).c2
  have qbl := (vb).lt
  replace vx := vx.keep hb9
  replace vy := vy.keep hb9
  replace vp := vp.keep hb9
  replace vq := vq.keep hb9
  go_wp2_with fail
  refine (HT2.out _ va.ra).mono ?_
  rintro _ wa ⟨rfl, hba⟩
  replace hB := bstep hB hba
  replace va := va.keep hba
  replace vb := vb.keep hba
  clear qa0 qa1 qa2 qal
  clear qb0 qb1 qb2 qbl
  have qa0 := (va).c0
  have qa1 := (va).c1
  have qa2 := (va).c2
  have qal := (va).lt
  have qb0 := (vb).c0
  have qb1 := (vb).c1
  have qb2 := (vb).c2
  have qbl := (vb).lt
  replace vx := vx.keep hba
  replace vy := vy.keep hba
  replace vp := vp.keep hba
  replace vq := vq.keep hba
  have qx0 := (vx).c0
  have qx1 := (vx).c1
  have qx2 := (vx).c2
  have qxl := (vx).lt
  have qy0 := (vy).c0
  have qy1 := (vy).c1
  have qy2 := (vy).c2
  have qyl := (vy).lt
  have HS1 := fun w hx hy => same18_any S3 N3 G3 S4 N4 G4 x3 y3 z3 x4 y4 z4 R.1 R.1 w hx hy (by omega) (by omega) (by omega) (by omega) (by omega) (by omega)
  rw [sameB_self] at HS1
  go_wp2_with fail
  refine (HS1 _ vx.ra vy.ra).mono ?_
  rintro _ wb ⟨rfl, hbb⟩
  replace vp := vp.keep hbb
  replace vq := vq.keep hbb
  have p0 : World.cell? wb ⟨w7.heap.size, 0, none⟩ = some (.int .i64 mc.1) := vp.cell 0
  have pf0 := vp.frozen 0
  have p1 : World.cell? wb ⟨w7.heap.size, 1, none⟩ = some (.int .i64 mc.2) := vp.cell 1
  have pf1 := vp.frozen 1
  have pfl := vp.lt
  have tq0 : World.cell? wb ⟨w8.heap.size, 0, none⟩ = some (.int .i64 mc.1) := vq.cell 0
  have tf0 := vq.frozen 0
  have tq1 : World.cell? wb ⟨w8.heap.size, 1, none⟩ = some (.int .i64 mc.2) := vq.cell 1
  have tf1 := vq.frozen 1
  have tfl := vq.lt
  go_wp2
  go_ret
  exact ⟨rfl, bstep hB hbb⟩
end Go.Proofs.Ytjhigfhgchpjcaa
