/-
  Walk of the law AccumSums.
-/
import Derived.Test.YtjhigfhgchpjcaaAccU
namespace Go.Proofs.Ytjhigfhgchpjcaa
open Go.RowKit Runs Lagc Frac
set_option linter.unusedVariables false
set_option linter.unusedSimpArgs false

theorem val_at {a : Acc} (ha : Fine a) {k n : Nat} (hn : a.s.length = n) (hk : k < n) : valS a ((k : Int) - (n : Int) / 2) = ((val (a.s.getD k (0, 0)), val (a.n.getD k (0, 0))), 0) := by
  have := ha.odd
  exact valS_0 (acc_fine.2 ha) (by omega) (by omega)
theorem tot_fine {a : Acc} (h : Fine a) : 0 ≤ tot a.g ∧ tot a.g ≤ 64000000000 := by
  have h1 := tot_bound h.rn.1
  have := h.lg
  omega
theorem addAcc_small {a : Acc} {l : List (Int × Int)} {p m : Int} (ha : Fine a) (hl : lagErr l = 0) : (addAcc a l p m).1.s.length ≤ 511 ∧ (addAcc a l p m).1.n.length ≤ 511 ∧ (addAcc a l p m).1.g.length ≤ 64 := by
  by_cases h : (addAcc a l p m).2 = 0
  · have hf := (sums_law ha hl h).fine
    exact ⟨hf.ls, by rw [hf.ln]; exact hf.ls, hf.lg⟩
  · rw [addAcc_none h]
    simp [Acc.none]
set_option maxRecDepth 30000 in
set_option maxHeartbeats 4000000 in
theorem accumSums_walk (S1 N1 G1 : Option Addr) (x1 y1 z1 : Nat) (a : Acc) (S2 N2 G2 : Option Addr) (x2 y2 z2 : Nat) (b : Acc) (L : Option Addr) (c : Nat) (l : List (Int × Int)) (p m : Int) (w : World) (ha : RA w S1 N1 G1 a) (ia : InA a) (hb : RA w S2 N2 G2 b) (ib : InA b) (hL : RL w L l) (hl : l.length ≤ 9223372036854775807) (hwf : ∀ x ∈ l, (Lit.int .i64 x.1).wf = true ∧ (Lit.int .i64 x.2).wf = true) (hp : -9223372036854775808 ≤ p ∧ p ≤ 9223372036854775807) (hm : -9223372036854775808 ≤ m ∧ m ≤ 9223372036854775807) :
    Calls Try.prog 7 #[.agg #[.slice S1 a.s.length x1, .slice N1 a.n.length y1, .slice G1 a.g.length z1], .agg #[.slice S2 b.s.length x2, .slice N2 b.n.length y2, .slice G2 b.g.length z2], .slice L l.length c, .int .i64 p, .int .i64 m] w fun e w' => e = .returned (.bool true) ∧ Below w.heap.size w w' := by
  obtain ⟨w0, hw0⟩ : ∃ w0, w0 = (w.alloc (.cells #[.slice S1 a.s.length x1, .slice N1 a.n.length y1, .slice G1 a.g.length z1] 25)).alloc (.cells #[.slice S2 b.s.length x2, .slice N2 b.n.length y2, .slice G2 b.g.length z2] 25) := ⟨_, rfl⟩
  have hB : Below w.heap.size w w0 := by rw [hw0]; exact balloc (balloc (Below.refl _ _) _) _
  have va : VarA w0 w.heap.size S1 N1 G1 x1 y1 z1 a := ⟨by rw [hw0]; exact (Blk.new _ _ _).alloc _, ha.keep hB⟩
  have vb : VarA w0 (w.heap.size + 1) S2 N2 G2 x2 y2 z2 b := ⟨by rw [hw0]; exact Blk.newAt _ _ (by simp), hb.keep hB⟩
  have HW := Lib.hid hw0
  clear hw0 hwf
  have HFA := fun w hx => fit18_any S1 N1 G1 x1 y1 z1 a w hx ia
  have HFB := fun w hx => fit18_any S2 N2 G2 x2 y2 z2 b w hx ib
  have HLO := fun w => long16_any L l.length c w
  by_cases fa : Fine a
  case neg =>
    rw [fit_no fa] at HFA
    clear fa
    go_enter Try.func7, Try.ntmps7
    go_wp2_with fail
    refine (alive18 _).mono ?_
    rintro _ w1 ⟨rfl, hb1⟩
    rw [← HW.out] at hb1
    replace hB := bstep hB hb1
    replace va := va.keep hb1
    replace vb := vb.keep hb1
    have qa0 := (va).c0
    have qa1 := (va).c1
    have qa2 := (va).c2
    have qal := (va).lt
    have qb0 := (vb).c0
    have qb1 := (vb).c1
    have qb2 := (vb).c2
    have qbl := (vb).lt
    go_wp2_with fail
    refine (HFA _ va.ra).mono ?_
    rintro _ w2 ⟨rfl, hb2⟩
    go_wp2
    go_ret
    exact ⟨rfl, bstep hB hb2⟩
  rw [fit_yes fa] at HFA
  by_cases fb : Fine b
  case neg =>
    rw [fit_no fb] at HFB
    clear fb
    go_enter Try.func7, Try.ntmps7
    go_wp2_with fail
    refine (alive18 _).mono ?_
    rintro _ w1 ⟨rfl, hb1⟩
    rw [← HW.out] at hb1
    replace hB := bstep hB hb1
    replace va := va.keep hb1
    replace vb := vb.keep hb1
    have qa0 := (va).c0
    have qa1 := (va).c1
    have qa2 := (va).c2
    have qal := (va).lt
    have qb0 := (vb).c0
    have qb1 := (vb).c1
    have qb2 := (vb).c2
    have qbl := (vb).lt
    go_wp2_with fail
    refine (HFA _ va.ra).mono ?_
    rintro _ w2 ⟨rfl, hb2⟩
    replace hB := bstep hB hb2
    replace va := va.keep hb2
    replace vb := vb.keep hb2
    clear qa0 qa1 qa2 qal
    clear qb0 qb1 qb2 qbl
    have qa0 := (va).c0
    have qa1 := (va).c1
    have qa2 := (va).c2
    have qal := (va).lt
    have qb0 := (vb).c0
    have qb1 := (vb).c1
    have qb2 := (vb).c2
    have qbl := (vb).lt
    go_wp2_with fail
    refine (HFB _ vb.ra).mono ?_
    rintro _ w3 ⟨rfl, hb3⟩
    go_wp2
    go_ret
    exact ⟨rfl, bstep hB hb3⟩
  rw [fit_yes fb] at HFB
  by_cases hlo : 600 < l.length
  · rw [decide_eq_true hlo] at HLO
    go_enter Try.func7, Try.ntmps7
    go_wp2_with fail
    refine (alive18 _).mono ?_
    rintro _ w1 ⟨rfl, hb1⟩
    rw [← HW.out] at hb1
    replace hB := bstep hB hb1
    replace va := va.keep hb1
    replace vb := vb.keep hb1
    have qa0 := (va).c0
    have qa1 := (va).c1
    have qa2 := (va).c2
    have qal := (va).lt
    have qb0 := (vb).c0
    have qb1 := (vb).c1
    have qb2 := (vb).c2
    have qbl := (vb).lt
    go_wp2_with fail
    refine (HFA _ va.ra).mono ?_
    rintro _ w2 ⟨rfl, hb2⟩
    replace hB := bstep hB hb2
    replace va := va.keep hb2
    replace vb := vb.keep hb2
    clear qa0 qa1 qa2 qal
    clear qb0 qb1 qb2 qbl
    have qa0 := (va).c0
    have qa1 := (va).c1
    have qa2 := (va).c2
    have qal := (va).lt
    have qb0 := (vb).c0
    have qb1 := (vb).c1
    have qb2 := (vb).c2
    have qbl := (vb).lt
    go_wp2_with fail
    refine (HFB _ vb.ra).mono ?_
    rintro _ w3 ⟨rfl, hb3⟩
    replace hB := bstep hB hb3
    replace va := va.keep hb3
    replace vb := vb.keep hb3
    clear qa0 qa1 qa2 qal
    clear qb0 qb1 qb2 qbl
    have qa0 := (va).c0
    have qa1 := (va).c1
    have qa2 := (va).c2
    have qal := (va).lt
    have qb0 := (vb).c0
    have qb1 := (vb).c1
    have qb2 := (vb).c2
    have qbl := (vb).lt
    go_wp2_with fail
    refine (HLO _).mono ?_
    rintro _ _ ⟨rfl, rfl⟩
    go_wp2
    go_ret
    exact ⟨rfl, hB⟩
  rw [decide_eq_false hlo] at HLO
  have HRC := fun w hx => refCheck16_any L c l w hx (by omega)
  by_cases el : lagErr l = 0
  case neg =>
    have e2 : (lagErr l != 0) = true := by rw [bne_iff_ne]; exact el
    clear el
    generalize lagErr l = E at *
    go_enter Try.func7, Try.ntmps7
    go_wp2_with fail
    refine (alive18 _).mono ?_
    rintro _ w1 ⟨rfl, hb1⟩
    rw [← HW.out] at hb1
    replace hB := bstep hB hb1
    replace va := va.keep hb1
    replace vb := vb.keep hb1
    have qa0 := (va).c0
    have qa1 := (va).c1
    have qa2 := (va).c2
    have qal := (va).lt
    have qb0 := (vb).c0
    have qb1 := (vb).c1
    have qb2 := (vb).c2
    have qbl := (vb).lt
    go_wp2_with fail
    refine (HFA _ va.ra).mono ?_
    rintro _ w2 ⟨rfl, hb2⟩
    replace hB := bstep hB hb2
    replace va := va.keep hb2
    replace vb := vb.keep hb2
    clear qa0 qa1 qa2 qal
    clear qb0 qb1 qb2 qbl
    have qa0 := (va).c0
    have qa1 := (va).c1
    have qa2 := (va).c2
    have qal := (va).lt
    have qb0 := (vb).c0
    have qb1 := (vb).c1
    have qb2 := (vb).c2
    have qbl := (vb).lt
    go_wp2_with fail
    refine (HFB _ vb.ra).mono ?_
    rintro _ w3 ⟨rfl, hb3⟩
    replace hB := bstep hB hb3
    replace va := va.keep hb3
    replace vb := vb.keep hb3
    clear qa0 qa1 qa2 qal
    clear qb0 qb1 qb2 qbl
    have qa0 := (va).c0
    have qa1 := (va).c1
    have qa2 := (va).c2
    have qal := (va).lt
    have qb0 := (vb).c0
    have qb1 := (vb).c1
    have qb2 := (vb).c2
    have qbl := (vb).lt
    go_wp2_with fail
    refine (HLO _).mono ?_
    rintro _ _ ⟨rfl, rfl⟩
    go_wp2_with fail
    refine (HRC _ (hL.keep hB)).mono ?_
    rintro _ w4 ⟨rfl, hb4⟩
    go_wp2
    go_ret
    exact ⟨rfl, bstep hB hb4⟩
  rw [el] at HRC
  have l1 := fa.ls
  have l2 : a.n.length ≤ 511 := by rw [fa.ln]; exact fa.ls
  have l3 := fa.lg
  have l4 := fb.ls
  have l5 : b.n.length ≤ 511 := by rw [fb.ln]; exact fb.ls
  have l6 := fb.lg
  have HADD := Lib.hid (fun w hx hL => accAdd_any S1 N1 G1 L x1 y1 z1 c a l p m w hx hL (by omega) (by omega) (by omega) (by omega) hp hm)
  have HSL := Lib.hid (fun h => sums_law (a := a) (l := l) (at_ := p) (many := m) fa el h)
  have HNO := Lib.hid (fun h => addAcc_none (a := a) (l := l) (at_ := p) (many := m) h)
  have HSW := Lib.hid (fun h1 h2 h3 => adds_swap (a := a) (b := b) (l := l) (at_ := p) (many := m) fa fb el h1 h2 h3)
  have HAR := Lib.hid (fun h => addArg_no (addAcc_ok (a := a) (l := l) (at_ := p) (many := m) fa el h))
  have sR := addAcc_small (a := a) (l := l) (p := p) (m := m) fa el
  have HFF := Lib.hid (And.intro fa (And.intro fb el))
  have HTA := fun w hx => accTimes_any S1 N1 G1 x1 y1 z1 a w hx (by omega) (by omega) (by omega)
  rw [timS_yes (acc_fine.2 fa)] at HTA
  have ht := tot_fine fa
  clear fa fb el
  generalize addAcc a l p m = R at *
  go_enter Try.func7, Try.ntmps7
  go_wp2_with fail
  refine (alive18 _).mono ?_
  rintro _ w1 ⟨rfl, hb1⟩
  rw [← HW.out] at hb1
  replace hB := bstep hB hb1
  replace va := va.keep hb1
  replace vb := vb.keep hb1
  have qa0 := (va).c0
  have qa1 := (va).c1
  have qa2 := (va).c2
  have qal := (va).lt
  have qb0 := (vb).c0
  have qb1 := (vb).c1
  have qb2 := (vb).c2
  have qbl := (vb).lt
  go_wp2_with fail
  refine (HFA _ va.ra).mono ?_
  rintro _ w2 ⟨rfl, hb2⟩
  replace hB := bstep hB hb2
  replace va := va.keep hb2
  replace vb := vb.keep hb2
  clear qa0 qa1 qa2 qal
  clear qb0 qb1 qb2 qbl
  have qa0 := (va).c0
  have qa1 := (va).c1
  have qa2 := (va).c2
  have qal := (va).lt
  have qb0 := (vb).c0
  have qb1 := (vb).c1
  have qb2 := (vb).c2
  have qbl := (vb).lt
  go_wp2_with fail
  refine (HFB _ vb.ra).mono ?_
  rintro _ w3 ⟨rfl, hb3⟩
  replace hB := bstep hB hb3
  replace va := va.keep hb3
  replace vb := vb.keep hb3
  clear qa0 qa1 qa2 qal
  clear qb0 qb1 qb2 qbl
  have qa0 := (va).c0
  have qa1 := (va).c1
  have qa2 := (va).c2
  have qal := (va).lt
  have qb0 := (vb).c0
  have qb1 := (vb).c1
  have qb2 := (vb).c2
  have qbl := (vb).lt
  go_wp2_with fail
  refine (HLO _).mono ?_
  rintro _ _ ⟨rfl, rfl⟩
  go_wp2_with fail
  refine (HRC _ (hL.keep hB)).mono ?_
  rintro _ w4 ⟨rfl, hb4⟩
  replace hB := bstep hB hb4
  replace va := va.keep hb4
  replace vb := vb.keep hb4
  clear qa0 qa1 qa2 qal
  clear qb0 qb1 qb2 qbl
  have qa0 := (va).c0
  have qa1 := (va).c1
  have qa2 := (va).c2
  have qal := (va).lt
  have qb0 := (vb).c0
  have qb1 := (vb).c1
  have qb2 := (vb).c2
  have qbl := (vb).lt
  go_wp2_with fail
  refine (HADD.out _ va.ra (hL.keep hB)).mono ?_
  rintro _ w5 ⟨S4, N4, G4, x4, y4, z4, rfl, rvx, fx, hb5⟩
  replace hB := bstep hB hb5
  replace va := va.keep hb5
  replace vb := vb.keep hb5
  clear qa0 qa1 qa2 qal
  clear qb0 qb1 qb2 qbl
  have qa0 := (va).c0
  have qa1 := (va).c1
  have qa2 := (va).c2
  have qal := (va).lt
  have qb0 := (vb).c0
  have qb1 := (vb).c1
  have qb2 := (vb).c2
  have qbl := (vb).lt
  by_cases eR : R.2 = 0
  case neg =>
    have e1 : (R.2 != 0) = true := by rw [bne_iff_ne]; exact eR
    have e2 : ((R.1.s.length : Int) == 0) = true := by rw [HNO.out eR]; rfl
    clear eR
    go_wp2
    go_ret
    exact ⟨rfl, by (repeat (first | with_reducible exact Below.refl _ _ | assumption | with_reducible refine below_drewN ?_ _ | with_reducible refine Below.drew ?_ | with_reducible refine balloc ?_ _ | (with_reducible refine Below.setCell ?_ ?_ _; rotate_left; focus (first | (simp; done) | (simp; omega) | omega))))⟩
  have e1 : (R.2 != 0) = false := by rw [bne_eq_false_iff_eq]; exact eR
  have hS := HSL.out eR
  obtain ⟨hlen, hm1, hm2, hp1, hp2⟩ := HAR.out eR
  have HTX := fun w hx => accTimes_any S4 N4 G4 x4 y4 z4 R.1 w hx (by omega) (by omega) (by omega)
  rw [timS_yes (acc_fine.2 hS.fine)] at HTX
  have HCX := fun w hx => refCheck_any S4 N4 G4 x4 y4 z4 R.1 w hx (by omega) (by omega) (by omega) (fine_rg hS.fine)
  rw [acc_fine.2 hS.fine] at HCX
  have HI1 := fun w hx => refIn_any G4 z4 R.1.g p w hx (by omega) hS.fine.rn.1
  rw [inB_mem hS.m1] at HI1
  have HI2 := fun w hx => refIn_any G4 z4 R.1.g (p + m - 1) w hx (by omega) hS.fine.rn.1
  rw [inB_mem hS.m2] at HI2
  have e2 : (tot R.1.g != tot a.g + m) = false := by rw [bne_eq_false_iff_eq]; exact hS.tot
  have e3 : ((R.1.s.length : Int) != l.length) = false := by rw [bne_eq_false_iff_eq]; have := hS.len; omega
  have HER := Lib.hid eR
  have HHS := Lib.hid hS
  have HLEN := Lib.hid hlen
  clear eR hS hlen
  go_wp2_with fail
  obtain ⟨u5, hu5⟩ : ∃ u5, u5 = w5.alloc (.cells #[.slice S4 R.1.s.length x4, .slice N4 R.1.n.length y4, .slice G4 R.1.g.length z4] 25) := ⟨_, rfl⟩
  have vx : VarA u5 w5.heap.size S4 N4 G4 x4 y4 z4 R.1 := by rw [hu5]; exact VarA.new rvx x4 y4 z4
  have hbu : Below w5.heap.size w5 u5 := by rw [hu5]; exact balloc (Below.refl _ _) _
  rw [← hu5]
  clear hu5
  replace hB := bstep hB hbu
  replace va := va.keep hbu
  replace vb := vb.keep hbu
  clear qa0 qa1 qa2 qal
  clear qb0 qb1 qb2 qbl
  have qa0 := (va).c0
  have qa1 := (va).c1
  have qa2 := (va).c2
  have qal := (va).lt
  have qb0 := (vb).c0
  have qb1 := (vb).c1
  have qb2 := (vb).c2
  have qbl := (vb).lt
  clear hbu
  refine (HTA _ va.ra).mono ?_
  rintro _ w6 ⟨rfl, hb6⟩
  replace hB := bstep hB hb6
  replace va := va.keep hb6
  replace vb := vb.keep hb6
  clear qa0 qa1 qa2 qal
  clear qb0 qb1 qb2 qbl
  have qa0 := (va).c0
  have qa1 := (va).c1
  have qa2 := (va).c2
  have qal := (va).lt
  have qb0 := (vb).c0
  have qb1 := (vb).c1
  have qb2 := (vb).c2
  have qbl := (vb).lt
  replace vx := vx.keep hb6
  have qx0 := (vx).c0
  have qx1 := (vx).c1
  have qx2 := (vx).c2
  have qxl := (vx).lt
  go_wp2_with fail
  refine (HTX _ vx.ra).mono ?_
  rintro _ w7 ⟨rfl, hb7⟩
  replace hB := bstep hB hb7
  replace va := va.keep hb7
  replace vb := vb.keep hb7
  clear qa0 qa1 qa2 qal
  clear qb0 qb1 qb2 qbl
  have qa0 := (va).c0
  have qa1 := (va).c1
  have qa2 := (va).c2
  have qal := (va).lt
  have qb0 := (vb).c0
  have qb1 := (vb).c1
  have qb2 := (vb).c2
  have qbl := (vb).lt
  replace vx := vx.keep hb7
  clear qx0 qx1 qx2 qxl
  have qx0 := (vx).c0
  have qx1 := (vx).c1
  have qx2 := (vx).c2
  have qxl := (vx).lt
  have hT2 := HHS.out.tot
  have hbT : tot R.1.g ≤ 64000000256 := by omega
  clear hT2
  generalize tot R.1.g = TX at *
  generalize tot a.g = TA at *
  go_wp2_with fail
  refine (HCX _ vx.ra).mono ?_
  rintro _ w8 ⟨rfl, hb8⟩
  replace hB := bstep hB hb8
  replace va := va.keep hb8
  replace vb := vb.keep hb8
  clear qa0 qa1 qa2 qal
  clear qb0 qb1 qb2 qbl
  have qa0 := (va).c0
  have qa1 := (va).c1
  have qa2 := (va).c2
  have qal := (va).lt
  have qb0 := (vb).c0
  have qb1 := (vb).c1
  have qb2 := (vb).c2
  have qbl := (vb).lt
  replace vx := vx.keep hb8
  clear qx0 qx1 qx2 qxl
  have qx0 := (vx).c0
  have qx1 := (vx).c1
  have qx2 := (vx).c2
  have qxl := (vx).lt
  go_wp2_with fail
  refine (HI1 _ vx.ra.g).mono ?_
  rintro _ w9 ⟨rfl, hb9⟩
  replace hB := bstep hB hb9
  replace va := va.keep hb9
  replace vb := vb.keep hb9
  clear qa0 qa1 qa2 qal
  clear qb0 qb1 qb2 qbl
  have qa0 := (va).c0
  have qa1 := (va).c1
  have qa2 := (va).c2
  have qal := (va).lt
  have qb0 := (vb).c0
  have qb1 := (vb).c1
  have qb2 := (vb).c2
  have qbl := (vb).lt
  replace vx := vx.keep hb9
  clear qx0 qx1 qx2 qxl
  have qx0 := (vx).c0
  have qx1 := (vx).c1
  have qx2 := (vx).c2
  have qxl := (vx).lt
  go_wp2_with fail
  refine (HI2 _ vx.ra.g).mono ?_
  rintro _ wa ⟨rfl, hba⟩
  replace hB := bstep hB hba
  replace va := va.keep hba
  replace vb := vb.keep hba
  clear qa0 qa1 qa2 qal
  clear qb0 qb1 qb2 qbl
  have qa0 := (va).c0
  have qa1 := (va).c1
  have qa2 := (va).c2
  have qal := (va).lt
  have qb0 := (vb).c0
  have qb1 := (vb).c1
  have qb2 := (vb).c2
  have qbl := (vb).lt
  replace vx := vx.keep hba
  clear qx0 qx1 qx2 qxl
  have qx0 := (vx).c0
  have qx1 := (vx).c1
  have qx2 := (vx).c2
  have qxl := (vx).lt
  go_wp2
  clear qa0 qa1 qa2 qal
  clear qb0 qb1 qb2 qbl
  clear qx0 qx1 qx2 qxl
  obtain ⟨fa, fb, el⟩ := HFF.out
  have HLB := Lib.hid (fun k (hk : k < l.length) => okLag_bd ((lagErr_zero el).2.2 _ (getD_mem (d := (0, 0)) hk)))
  have HVA := Lib.hid (fun (k : Nat) (hk : k < l.length) => val_at fa HLEN.out.symm hk)
  have HVX := Lib.hid (fun (k : Nat) (hk : k < l.length) => val_at HHS.out.fine HHS.out.len hk)
  have HBA := Lib.hid (fun (k : Nat) (hk : k < l.length) => And.intro (val_bd (fine_okS fa _ (getD_mem (d := (0, 0)) (show k < a.s.length by have := HLEN.out; omega)))) (val_bd (fine_okN fa _ (getD_mem (d := (0, 0)) (show k < a.n.length by have := HLEN.out; have := fa.ln; omega)))))
  have sY := merge_small HHS.out.fine fb
  have sZ := merge_small fa fb
  have HZF := Lib.hid (fun h => (merge_fine fa fb h).1)
  have HMX := Lib.hid (fun w hx hy => accMerge_any S4 N4 G4 S2 N2 G2 x4 y4 z4 x2 y2 z2 R.1 b w hx hy (by omega) (by omega) (by omega) (by omega) (by omega) (by omega))
  have HMZ := Lib.hid (fun w hx hy => accMerge_any S1 N1 G1 S2 N2 G2 x1 y1 z1 x2 y2 z2 a b w hx hy (by omega) (by omega) (by omega) (by omega) (by omega) (by omega))
  have HSW2 := Lib.hid (fun h2 h3 => HSW.out HER.out h2 h3)
  have HEL := Lib.hid el
  clear fa fb el
  go_loopg [18, 19, 20, 21, 22, 23, 24] l.length (fun gk i _ _ _ _ _ _ wr => ∃ k : Nat, k + gk = l.length ∧ i = .int .i64 k ∧ Below wa.heap.size wa wr)
  case atStart => exact ⟨0, by omega, rfl, Below.refl _ _⟩
  case round =>
    obtain ⟨k, hk, rfl, hbr⟩ := hrel
    have hk' : k ≤ l.length := by omega
    have HK := Lib.hid hk
    clear hk
    replace hB := bstep hB hbr
    replace va := va.keep hbr
    replace vb := vb.keep hbr
    replace vx := vx.keep hbr
    by_cases hlt : k < l.length
    · obtain ⟨b1, off1, rfl, hl1, hc1, hd1⟩ := hL.at_ hlt
      have hbd := HLB.out k hlt
      obtain ⟨hbs, hbn⟩ := HBA.out k hlt
      have hvs := HHS.out.vs k hlt
      have hvn := HHS.out.vn k hlt
      have HA1 := fun w hx => accValue_any S1 N1 G1 x1 y1 z1 a ((k : Int) - (l.length : Int) / 2) w hx (by omega) (by omega) (by omega) (by omega)
      rw [HVA.out k hlt] at HA1
      have HX1 := fun w hx => accValue_any S4 N4 G4 x4 y4 z4 R.1 ((k : Int) - (l.length : Int) / 2) w hx (by omega) (by omega) (by omega) (by omega)
      rw [HVX.out k hlt, hvs, hvn] at HX1
      clear hvs hvn
      generalize val (a.s.getD k (0, 0)) = sA at *
      generalize val (a.n.getD k (0, 0)) = nA at *
      generalize l.getD k (0, 0) = x at *
      have qa0 := (va).c0
      have qa1 := (va).c1
      have qa2 := (va).c2
      have qal := (va).lt
      have qx0 := (vx).c0
      have qx1 := (vx).c1
      have qx2 := (vx).c2
      have qxl := (vx).lt
      go_wp2_with fail
      refine (HA1 _ va.ra).mono ?_
      rintro _ wb ⟨rfl, hbb⟩
      replace va := va.keep hbb
      replace vx := vx.keep hbb
      clear qa0 qa1 qa2 qal
      clear qx0 qx1 qx2 qxl
      have qx0 := (vx).c0
      have qx1 := (vx).c1
      have qx2 := (vx).c2
      have qxl := (vx).lt
      go_wp2_with fail
      refine (HX1 _ vx.ra).mono ?_
      rintro _ wc ⟨rfl, hbc⟩
      have hB2 := bstep (bstep hB hbb) hbc
      have p1 := (hB2.cell (p := ⟨b1, _, none⟩) hl1).trans hc1
      have p2 := (hB2.cell (p := ⟨b1, _, none⟩) hl1).trans hd1
      go_wp2
      go_roundg (gk - 1)
      case rel => exact ⟨k + 1, by have := HK.out; omega, by go_num, bstep (bstep hbr hbb) hbc⟩
      case measure => have := HK.out; omega
    · have qa0 := (va).c0
      have qa1 := (va).c1
      have qa2 := (va).c2
      have qal := (va).lt
      have qb0 := (vb).c0
      have qb1 := (vb).c1
      have qb2 := (vb).c2
      have qbl := (vb).lt
      have qx0 := (vx).c0
      have qx1 := (vx).c1
      have qx2 := (vx).c2
      have qxl := (vx).lt
      generalize mergeS R.1 b = Y at *
      generalize mergeS a b = Z at *
      go_wp2_with fail
      refine (HMX.out _ vx.ra vb.ra).mono ?_
      rintro _ wb ⟨S5, N5, G5, x5, y5, z5, rfl, rvy, fy, hbb⟩
      replace hB := bstep hB hbb
      replace va := va.keep hbb
      replace vb := vb.keep hbb
      clear qa0 qa1 qa2 qal
      clear qb0 qb1 qb2 qbl
      have qa0 := (va).c0
      have qa1 := (va).c1
      have qa2 := (va).c2
      have qal := (va).lt
      have qb0 := (vb).c0
      have qb1 := (vb).c1
      have qb2 := (vb).c2
      have qbl := (vb).lt
      clear qx0 qx1 qx2 qxl
      clear vx
      go_wp2_with fail
      obtain ⟨ub, hub⟩ : ∃ ub, ub = wb.alloc (.cells #[.slice S5 Y.1.s.length x5, .slice N5 Y.1.n.length y5, .slice G5 Y.1.g.length z5] 25) := ⟨_, rfl⟩
      have vy : VarA ub wb.heap.size S5 N5 G5 x5 y5 z5 Y.1 := by rw [hub]; exact VarA.new rvy x5 y5 z5
      have hbu : Below wb.heap.size wb ub := by rw [hub]; exact balloc (Below.refl _ _) _
      rw [← hub]
      clear hub
      replace hB := bstep hB hbu
      replace va := va.keep hbu
      replace vb := vb.keep hbu
      clear qa0 qa1 qa2 qal
      clear qb0 qb1 qb2 qbl
      have qa0 := (va).c0
      have qa1 := (va).c1
      have qa2 := (va).c2
      have qal := (va).lt
      have qb0 := (vb).c0
      have qb1 := (vb).c1
      have qb2 := (vb).c2
      have qbl := (vb).lt
      clear hbu
      refine (HMZ.out _ va.ra vb.ra).mono ?_
      rintro _ wc ⟨S6, N6, G6, x6, y6, z6, rfl, rvz, fz, hbc⟩
      replace hB := bstep hB hbc
      clear qa0 qa1 qa2 qal
      clear qb0 qb1 qb2 qbl
      replace vy := vy.keep hbc
      by_cases eY : Y.2 = 0
      case neg =>
        have e7 : (Y.2 != 0) = true := by rw [bne_iff_ne]; exact eY
        clear eY
        go_wp2
        go_ret
        exact ⟨rfl, by (repeat (first | with_reducible exact Below.refl _ _ | assumption | with_reducible refine below_drewN ?_ _ | with_reducible refine Below.drew ?_ | with_reducible refine balloc ?_ _ | (with_reducible refine Below.setCell ?_ ?_ _; rotate_left; focus (first | (simp; done) | (simp; omega) | omega))))⟩
      have e7 : (Y.2 != 0) = false := by rw [bne_eq_false_iff_eq]; exact eY
      by_cases eZ : Z.2 = 0
      case neg =>
        have e8 : (Z.2 != 0) = true := by rw [bne_iff_ne]; exact eZ
        clear eZ eY
        go_wp2
        go_ret
        exact ⟨rfl, by (repeat (first | with_reducible exact Below.refl _ _ | assumption | with_reducible refine below_drewN ?_ _ | with_reducible refine Below.drew ?_ | with_reducible refine balloc ?_ _ | (with_reducible refine Below.setCell ?_ ?_ _; rotate_left; focus (first | (simp; done) | (simp; omega) | omega))))⟩
      have e8 : (Z.2 != 0) = false := by rw [bne_eq_false_iff_eq]; exact eZ
      have hsw := HSW2.out eZ eY
      have sQ := addAcc_small (a := Z.1) (l := l) (p := p) (m := m) (HZF.out eZ) HEL.out
      have HAZ := Lib.hid (fun w hx hL => accAdd_any S6 N6 G6 L x6 y6 z6 c Z.1 l p m w hx hL (by omega) (by omega) (by omega) (by omega) hp hm)
      clear eY eZ
      generalize addAcc Z.1 l p m = Q at *
      go_wp2_with fail
      obtain ⟨uc, huc⟩ : ∃ uc, uc = wc.alloc (.cells #[.slice S6 Z.1.s.length x6, .slice N6 Z.1.n.length y6, .slice G6 Z.1.g.length z6] 25) := ⟨_, rfl⟩
      have vz : VarA uc wc.heap.size S6 N6 G6 x6 y6 z6 Z.1 := by rw [huc]; exact VarA.new rvz x6 y6 z6
      have hbu : Below wc.heap.size wc uc := by rw [huc]; exact balloc (Below.refl _ _) _
      rw [← huc]
      clear huc
      replace hB := bstep hB hbu
      replace vy := vy.keep hbu
      clear hbu
      refine (HAZ.out _ vz.ra (hL.keep hB)).mono ?_
      rintro _ wd ⟨S7, N7, G7, x7, y7, z7, rfl, rvq, fq, hbd⟩
      replace hB := bstep hB hbd
      replace vy := vy.keep hbd
      rcases hsw with ⟨h1, h2⟩ | h1 | h1
      · have HS2 := fun w hx hy => same18_any S5 N5 G5 S7 N7 G7 x5 y5 z5 x7 y7 z7 Y.1 Q.1 w hx hy (by omega) (by omega) (by omega) (by omega) (by omega) (by omega)
        rw [sameB_iff.2 h2] at HS2
        have e9 : (Q.2 == 0) = true := by rw [beq_iff_eq]; exact h1
        clear h1 h2
        have qy0 := (vy).c0
        have qy1 := (vy).c1
        have qy2 := (vy).c2
        have qyl := (vy).lt
        go_wp2_with fail
        obtain ⟨ud, hud⟩ : ∃ ud, ud = wd.alloc (.cells #[.slice S7 Q.1.s.length x7, .slice N7 Q.1.n.length y7, .slice G7 Q.1.g.length z7] 25) := ⟨_, rfl⟩
        have vq : VarA ud wd.heap.size S7 N7 G7 x7 y7 z7 Q.1 := by rw [hud]; exact VarA.new rvq x7 y7 z7
        have hbu : Below wd.heap.size wd ud := by rw [hud]; exact balloc (Below.refl _ _) _
        rw [← hud]
        clear hud
        replace hB := bstep hB hbu
        replace vy := vy.keep hbu
        clear qy0 qy1 qy2 qyl
        refine (HS2 _ vy.ra vq.ra).mono ?_
        rintro _ we ⟨rfl, hbe⟩
        go_wp2
        go_ret
        exact ⟨rfl, bstep hB hbe⟩
      · have e9 : (Q.2 == 0) = false := by rw [beq_eq_false_iff_ne]; omega
        have ea : (Q.2 == 4) = true := by rw [beq_iff_eq]; exact h1
        clear h1
        go_wp2
        go_ret
        exact ⟨rfl, by (repeat (first | with_reducible exact Below.refl _ _ | assumption | with_reducible refine below_drewN ?_ _ | with_reducible refine Below.drew ?_ | with_reducible refine balloc ?_ _ | (with_reducible refine Below.setCell ?_ ?_ _; rotate_left; focus (first | (simp; done) | (simp; omega) | omega))))⟩
      · have e9 : (Q.2 == 0) = false := by rw [beq_eq_false_iff_ne]; omega
        have ea : (Q.2 == 4) = false := by rw [beq_eq_false_iff_ne]; omega
        have eb : (Q.2 == 16) = true := by rw [beq_iff_eq]; exact h1
        clear h1
        go_wp2
        go_ret
        exact ⟨rfl, by (repeat (first | with_reducible exact Below.refl _ _ | assumption | with_reducible refine below_drewN ?_ _ | with_reducible refine Below.drew ?_ | with_reducible refine balloc ?_ _ | (with_reducible refine Below.setCell ?_ ?_ _; rotate_left; focus (first | (simp; done) | (simp; omega) | omega))))⟩
end Go.Proofs.Ytjhigfhgchpjcaa
