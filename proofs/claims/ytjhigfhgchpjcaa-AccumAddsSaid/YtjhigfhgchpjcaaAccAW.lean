/-
  Walk of the law AccumAdds.
-/
import Derived.Test.YtjhigfhgchpjcaaAccMW
import Derived.Test.YtjhigfhgchpjcaaAccZ3
import Derived.Test.YtjhigfhgchpjcaaAccV
import Derived.Test.YtjhigfhgchpjcaaRegQ
namespace Go.Proofs.Ytjhigfhgchpjcaa
open Go.RowKit Runs Lagc Frac Reg
set_option linter.unusedVariables false
set_option linter.unusedSimpArgs false

theorem info_lag : (Try.prog.info? 65).map (fun i => (i.zero, i.size, i.bytes)) = some (some (.agg #[.int .i64 0, .int .i64 0]), 2, 16) := by kernel_rfl
theorem new_small (m : Int) : (newS m).1.s.length ≤ 511 ∧ (newS m).1.n.length ≤ 511 ∧ (newS m).1.g.length ≤ 64 := by
  unfold newS
  split
  · simp [Acc.none]
  · simp; omega
theorem add_small_any (a : Acc) (l : List (Int × Int)) (p m : Int) : (addAcc a l p m).1.s.length ≤ 511 ∧ (addAcc a l p m).1.n.length ≤ 511 ∧ (addAcc a l p m).1.g.length ≤ 64 := by
  by_cases ha : accErr a = 0
  · by_cases hl : lagErr l = 0
    · exact addAcc_small (acc_fine.1 ha) hl
    · rw [addAcc_e2 ha hl]; simp [Acc.none]
  · rw [addAcc_e1 ha]; simp [Acc.none]
def addT (o a x y u v L1 L2 : Value) (c e g : Int) : Nat → Value
  | 0 => o
  | 1 => .int .i64 c
  | 2 => a
  | 3 => .int .i64 c
  | 6 => x
  | 7 => y
  | 11 => .int .i64 e
  | 12 => .int .i64 e
  | 16 => u
  | 17 => v
  | 21 => .int .i64 g
  | 22 => .int .i64 g
  | 26 => o
  | 27 => a
  | 31 => L1
  | 32 => L2
  | _ => .bool true
theorem load_acc {w : World} {g : Nat} {S N G : Option Addr} {x y z : Nat} {a : Acc} (h : VarA w g S N G x y z a) :
    (Instr.loadAt 25 (.pointer (some ⟨g, 0, none⟩))).run Try.prog w = .ok (.agg #[.slice S a.s.length x, .slice N a.n.length y, .slice G a.g.length z]) w := by
  have q0 := (h).c0
  have q1 := (h).c1
  have q2 := (h).c2
  have ql := (h).lt
  clear h
  go_simp

set_option maxRecDepth 20000 in
set_option maxHeartbeats 4000000 in
theorem accumAdds_walk (S1 N1 G1 L : Option Addr) (x1 y1 z1 c : Nat) (a : Acc) (l : List (Int × Int)) (m p q : Int) (w : World) (ha : RA w S1 N1 G1 a) (ia : InA a) (hl : RL w L l) (hm : -9223372036854775808 ≤ m ∧ m ≤ 9223372036854775807) (hp : -9223372036854775808 ≤ p ∧ p ≤ 9223372036854775807) (hq : -9223372036854775808 ≤ q ∧ q ≤ 9223372036854775807) :
    Calls Try.prog 3 #[.int .i64 m, .agg #[.slice S1 a.s.length x1, .slice N1 a.n.length y1, .slice G1 a.g.length z1], .slice L l.length c, .int .i64 p, .int .i64 q] w fun e w' => e = .returned (.bool true) ∧ Below w.heap.size w w' := by
  obtain ⟨i0, hi0, hz0, hz1, hz2⟩ := info_parts info_lag
  obtain ⟨w0, hw0⟩ : ∃ w0, w0 = w.alloc (.cells #[.slice S1 a.s.length x1, .slice N1 a.n.length y1, .slice G1 a.g.length z1] 25) := ⟨_, rfl⟩
  have hB : Below w.heap.size w w0 := by rw [hw0]; exact balloc (Below.refl _ _) _
  have va : VarA w0 w.heap.size S1 N1 G1 x1 y1 z1 a := ⟨by rw [hw0]; exact Blk.new _ _ _, ha.keep hB⟩
  replace hl := hl.keep hB
  have HW := Lib.hid hw0
  clear hw0
  have HGA := fun w => great_any S1 N1 G1 x1 y1 z1 a w
  have HLO := fun w => long16_any L l.length c w
  by_cases ga : greatB a = true
  · rw [ga] at HGA
    clear ga
    go_enter Try.func3, Try.ntmps3
    go_wp2_with fail
    rw [← HW.out]
    refine (HGA _).mono ?_
    rintro _ w1 ⟨rfl, hb1⟩
    go_wp2
    go_ret
    exact ⟨rfl, bstep hB hb1⟩
  have ga' : greatB a = false := by simpa using ga
  rw [ga'] at HGA
  obtain ⟨l1, l2, l3⟩ := great_no ga'
  clear ga ga'
  by_cases gl : 600 < l.length
  · rw [decide_eq_true gl] at HLO
    clear gl
    go_enter Try.func3, Try.ntmps3
    go_wp2_with fail
    rw [← HW.out]
    refine (HGA _).mono ?_
    rintro _ w1 ⟨rfl, hb1⟩
    go_wp2_with fail
    refine (HLO _).mono ?_
    rintro _ _ ⟨rfl, rfl⟩
    go_wp2
    go_ret
    exact ⟨rfl, bstep hB hb1⟩
  rw [decide_eq_false gl] at HLO
  have l4 : l.length ≤ 600 := by omega
  clear gl
  have HTW := Lib.hid (fun w hx => twin_any S1 N1 G1 x1 y1 z1 a w hx (by omega) (by omega) (by omega))
  have HN1 := Lib.hid (fun w => accNew_any m w hm)
  have HN2 := Lib.hid (fun w => refNew_any m w hm)
  have HA2 := Lib.hid (fun w hx hL => refAdd_any S1 N1 G1 L x1 y1 z1 c a l p q w hx hL (by omega) (by omega) (by omega) (by omega) ia.rg hp hq)
  have HA1 := Lib.hid (fun S N G L x y z c w hx hL => accAdd_any S N G L x y z c a l p q w hx hL (by omega) (by omega) (by omega) (by omega) hp hq)
  have sN := new_small m
  have sA := add_small_any a l p q
  have HC1 := Lib.hid (fun S N G x y z w hx => accCheck_any S N G x y z a w hx (by omega) (by omega) (by omega))
  have HC2 := Lib.hid (fun w hx => refCheck_any S1 N1 G1 x1 y1 z1 a w hx (by omega) (by omega) (by omega) ia.rg)
  have HS16 := Lib.hid (fun A B c d w hx hy => same16_any A B c d l l w hx hy (by omega) (by omega))
  rw [decide_eq_true rfl] at HS16
  have HS18 := Lib.hid (fun S N G S' N' G' x y z x' y' z' w hx hy => same18_any S N G S' N' G' x y z x' y' z' a a w hx hy (by omega) (by omega) (by omega) (by omega) (by omega) (by omega))
  generalize newS m = R at *
  generalize addAcc a l p q = A at *
  generalize accErr a = ce at *
  obtain ⟨R, re⟩ := R
  obtain ⟨A, ae⟩ := A
  simp only at sN sA
  have HSR := Lib.hid (fun S N G S' N' G' x y z x' y' z' w hx hy => same18_any S N G S' N' G' x y z x' y' z' R R w hx hy (by omega) (by omega) (by omega) (by omega) (by omega) (by omega))
  have HSA := Lib.hid (fun S N G S' N' G' x y z x' y' z' w hx hy => same18_any S N G S' N' G' x y z x' y' z' A A w hx hy (by omega) (by omega) (by omega) (by omega) (by omega) (by omega))
  rw [sameB_self] at HS18 HSR HSA
  go_enter Try.func3, Try.ntmps3
  go_wp2_with fail
  rw [← HW.out]
  refine (HGA _).mono ?_
  rintro _ w1 ⟨rfl, hb1⟩
  replace hB := bstep hB hb1
  replace va := va.keep hb1
  replace hl := hl.keep hb1
  go_wp2_with fail
  refine (HLO _).mono ?_
  rintro _ _ ⟨rfl, rfl⟩
  have qa0 := (va).c0
  have qa1 := (va).c1
  have qa2 := (va).c2
  have qal := (va).lt
  go_wp2_with fail
  refine (HTW.out _ va.ra).mono ?_
  rintro _ w2 ⟨_, rfl, ⟨S2, N2, G2, x2, y2, z2, rfl, rvo, fo⟩, hb2⟩
  clear qa0 qa1 qa2 qal
  replace hB := bstep hB hb2
  replace va := va.keep hb2
  replace hl := hl.keep hb2
  go_wp2_with (at_builtin; refine wpList_clone_RL _ rfl (.tmp 29) (.tmp 30) 26 rfl 65 16 Try.underlying26 hi0 hz0 hz1 hz2 rfl w2.heap.size w2.heap.size rfl (Nat.le_refl _) (by simp) L c l rfl (hl.keep (balloc (Below.refl _ _) _)) (by unfold maxLen; omega) (by omega) ?_; intro L2 c2 w3 hl2 fl2 hb3')
  have hb3 := bstep (balloc (Below.refl w2.heap.size w2) _) hb3'
  replace hB := bstep hB hb3
  replace va := va.keep hb3
  replace hl := hl.keep hb3
  replace rvo := rvo.keep hb3
  go_wp2_with fail
  obtain ⟨u3, hu3⟩ : ∃ u3, u3 = World.alloc w3 (.cells #[.slice S2 a.s.length x2, .slice N2 a.n.length y2, .slice G2 a.g.length z2] 25) := ⟨_, rfl⟩
  have vo : VarA u3 (World.heap w3).size S2 N2 G2 x2 y2 z2 a := by rw [hu3]; exact VarA.new rvo x2 y2 z2
  have hbu : Below (World.heap w3).size w3 u3 := by rw [hu3]; exact balloc (Below.refl _ _) _
  rw [← hu3]
  clear hu3
  replace hB := bstep hB hbu
  replace va := va.keep hbu
  replace hl := hl.keep hbu
  replace hl2 := hl2.keep hbu
  clear hbu
  refine (HN1.out _).mono ?_
  rintro _ w4 ⟨S4, N4, G4, x4, y4, z4, rfl, rvx, fx, hb4⟩
  replace hB := bstep hB hb4
  replace va := va.keep hb4
  replace hl := hl.keep hb4
  replace hl2 := hl2.keep hb4
  replace vo := vo.keep hb4
  go_wp2_with fail
  obtain ⟨u4, hu4⟩ : ∃ u4, u4 = World.alloc w4 (.cells #[.slice S4 R.s.length x4, .slice N4 R.n.length y4, .slice G4 R.g.length z4] 25) := ⟨_, rfl⟩
  have vx : VarA u4 (World.heap w4).size S4 N4 G4 x4 y4 z4 R := by rw [hu4]; exact VarA.new rvx x4 y4 z4
  have hbu : Below (World.heap w4).size w4 u4 := by rw [hu4]; exact balloc (Below.refl _ _) _
  rw [← hu4]
  clear hu4
  replace hB := bstep hB hbu
  replace va := va.keep hbu
  replace hl := hl.keep hbu
  replace hl2 := hl2.keep hbu
  replace vo := vo.keep hbu
  clear hbu
  refine (HN2.out _).mono ?_
  rintro _ w5 ⟨S5, N5, G5, x5, y5, z5, rfl, rvy, fy, hb5⟩
  replace hB := bstep hB hb5
  replace va := va.keep hb5
  replace hl := hl.keep hb5
  replace hl2 := hl2.keep hb5
  replace vo := vo.keep hb5
  replace vx := vx.keep hb5
  have qo0 := (vo).c0
  have qo1 := (vo).c1
  have qo2 := (vo).c2
  have qol := (vo).lt
  go_wp2_with fail
  clear qo0 qo1 qo2 qol
  obtain ⟨u5, hu5⟩ : ∃ u5, u5 = World.alloc w5 (.cells #[.slice S5 R.s.length x5, .slice N5 R.n.length y5, .slice G5 R.g.length z5] 25) := ⟨_, rfl⟩
  have vy : VarA u5 (World.heap w5).size S5 N5 G5 x5 y5 z5 R := by rw [hu5]; exact VarA.new rvy x5 y5 z5
  have hbu : Below (World.heap w5).size w5 u5 := by rw [hu5]; exact balloc (Below.refl _ _) _
  rw [← hu5]
  clear hu5
  replace hB := bstep hB hbu
  replace va := va.keep hbu
  replace hl := hl.keep hbu
  replace hl2 := hl2.keep hbu
  replace vo := vo.keep hbu
  replace vx := vx.keep hbu
  clear hbu
  refine (HA1.out _ _ _ _ _ _ _ _ _ vo.ra hl2).mono ?_
  rintro _ w6 ⟨S6, N6, G6, x6, y6, z6, rfl, rvu, fu, hb6⟩
  replace hB := bstep hB hb6
  replace va := va.keep hb6
  replace hl := hl.keep hb6
  replace hl2 := hl2.keep hb6
  replace vo := vo.keep hb6
  replace vx := vx.keep hb6
  replace vy := vy.keep hb6
  have qa0 := (va).c0
  have qa1 := (va).c1
  have qa2 := (va).c2
  have qal := (va).lt
  go_wp2_with fail
  clear qa0 qa1 qa2 qal
  obtain ⟨u6, hu6⟩ : ∃ u6, u6 = World.alloc w6 (.cells #[.slice S6 A.s.length x6, .slice N6 A.n.length y6, .slice G6 A.g.length z6] 25) := ⟨_, rfl⟩
  have vu : VarA u6 (World.heap w6).size S6 N6 G6 x6 y6 z6 A := by rw [hu6]; exact VarA.new rvu x6 y6 z6
  have hbu : Below (World.heap w6).size w6 u6 := by rw [hu6]; exact balloc (Below.refl _ _) _
  rw [← hu6]
  clear hu6
  replace hB := bstep hB hbu
  replace va := va.keep hbu
  replace hl := hl.keep hbu
  replace hl2 := hl2.keep hbu
  replace vo := vo.keep hbu
  replace vx := vx.keep hbu
  replace vy := vy.keep hbu
  clear hbu
  refine (HA2.out _ va.ra hl).mono ?_
  rintro _ w7 ⟨S7, N7, G7, x7, y7, z7, rfl, rvv, fv, hb7⟩
  replace hB := bstep hB hb7
  replace va := va.keep hb7
  replace hl := hl.keep hb7
  replace hl2 := hl2.keep hb7
  replace vo := vo.keep hb7
  replace vx := vx.keep hb7
  replace vy := vy.keep hb7
  replace vu := vu.keep hb7
  go_wp2_with fail
  obtain ⟨u7, hu7⟩ : ∃ u7, u7 = World.alloc w7 (.cells #[.slice S7 A.s.length x7, .slice N7 A.n.length y7, .slice G7 A.g.length z7] 25) := ⟨_, rfl⟩
  have vv : VarA u7 (World.heap w7).size S7 N7 G7 x7 y7 z7 A := by rw [hu7]; exact VarA.new rvv x7 y7 z7
  have hbu : Below (World.heap w7).size w7 u7 := by rw [hu7]; exact balloc (Below.refl _ _) _
  rw [← hu7]
  clear hu7
  replace hB := bstep hB hbu
  replace va := va.keep hbu
  replace hl := hl.keep hbu
  replace hl2 := hl2.keep hbu
  replace vo := vo.keep hbu
  replace vx := vx.keep hbu
  replace vy := vy.keep hbu
  replace vu := vu.keep hbu
  clear hbu
  refine wp_region_tab (by kernel_rfl) (by kernel_rfl) (by kernel_rfl) (by kernel_rfl) (addT (.agg #[.slice S2 a.s.length x2, .slice N2 a.n.length y2, .slice G2 a.g.length z2]) (.agg #[.slice S1 a.s.length x1, .slice N1 a.n.length y1, .slice G1 a.g.length z1]) (.agg #[.slice S4 R.s.length x4, .slice N4 R.n.length y4, .slice G4 R.g.length z4]) (.agg #[.slice S5 R.s.length x5, .slice N5 R.n.length y5, .slice G5 R.g.length z5]) (.agg #[.slice S6 A.s.length x6, .slice N6 A.n.length y6, .slice G6 A.g.length z6]) (.agg #[.slice S7 A.s.length x7, .slice N7 A.n.length y7, .slice G7 A.g.length z7]) (.slice L2 l.length c2) (.slice L l.length c) ce re ae) ⟨?_, ?_, ?_, ?_, ?_, ?_, ?_, ?_, ?_, ?_, ?_, ?_, ?_, ?_, ?_, ?_, ?_, ?_, ?_, ?_, ?_, ?_, ?_, ?_, ?_, ?_, ?_, ?_, ?_, ?_, ?_, ?_, ?_, ?_, ?_, ?_, trivial⟩ ?_
  · exact tab_load rfl (by kernel_rfl) (by kernel_rfl) (by kernel_rfl) (fun w hb => load_acc ((vo).keep hb))
  · exact tab_call rfl (by kernel_rfl) (by kernel_rfl) (by kernel_rfl) Try.call16 (fun w hbr => HC1.out _ _ _ x2 y2 z2 _ (vo.keep hbr).ra)
  · exact tab_load rfl (by kernel_rfl) (by kernel_rfl) (by kernel_rfl) (fun w hb => load_acc ((va).keep hb))
  · exact tab_call rfl (by kernel_rfl) (by kernel_rfl) (by kernel_rfl) Try.call17 (fun w hbr => HC2.out _ (va.keep hbr).ra)
  · exact tab_eql rfl (by kernel_rfl) (by kernel_rfl) (k := .i64) (m := ce) (n := ce) (by kernel_rfl) (by kernel_rfl) (by rw [beq_self_eq_true]; kernel_rfl)
  · first
      | exact tab_move rfl (by kernel_rfl) (by kernel_rfl) (by kernel_rfl)
      | exact tab_assign rfl (by kernel_rfl) (by kernel_rfl) (by kernel_rfl)
      | exact tab_pick rfl (by kernel_rfl) (by kernel_rfl) true (by kernel_rfl) (by kernel_rfl)
  · exact tab_load rfl (by kernel_rfl) (by kernel_rfl) (by kernel_rfl) (fun w hb => load_acc ((vx).keep hb))
  · exact tab_load rfl (by kernel_rfl) (by kernel_rfl) (by kernel_rfl) (fun w hb => load_acc ((vy).keep hb))
  · exact tab_call rfl (by kernel_rfl) (by kernel_rfl) (by kernel_rfl) Try.call18 (fun w hbr => HSR.out _ _ _ _ _ _ x4 y4 z4 x5 y5 z5 _ (vx.keep hbr).ra (vy.keep hbr).ra)
  · first
      | exact tab_move rfl (by kernel_rfl) (by kernel_rfl) (by kernel_rfl)
      | exact tab_assign rfl (by kernel_rfl) (by kernel_rfl) (by kernel_rfl)
      | exact tab_pick rfl (by kernel_rfl) (by kernel_rfl) true (by kernel_rfl) (by kernel_rfl)
  · first
      | exact tab_move rfl (by kernel_rfl) (by kernel_rfl) (by kernel_rfl)
      | exact tab_assign rfl (by kernel_rfl) (by kernel_rfl) (by kernel_rfl)
      | exact tab_pick rfl (by kernel_rfl) (by kernel_rfl) true (by kernel_rfl) (by kernel_rfl)
  · first
      | exact tab_move rfl (by kernel_rfl) (by kernel_rfl) (by kernel_rfl)
      | exact tab_assign rfl (by kernel_rfl) (by kernel_rfl) (by kernel_rfl)
      | exact tab_pick rfl (by kernel_rfl) (by kernel_rfl) true (by kernel_rfl) (by kernel_rfl)
  · first
      | exact tab_move rfl (by kernel_rfl) (by kernel_rfl) (by kernel_rfl)
      | exact tab_assign rfl (by kernel_rfl) (by kernel_rfl) (by kernel_rfl)
      | exact tab_pick rfl (by kernel_rfl) (by kernel_rfl) true (by kernel_rfl) (by kernel_rfl)
  · exact tab_eql rfl (by kernel_rfl) (by kernel_rfl) (k := .i64) (m := re) (n := re) (by kernel_rfl) (by kernel_rfl) (by rw [beq_self_eq_true]; kernel_rfl)
  · first
      | exact tab_move rfl (by kernel_rfl) (by kernel_rfl) (by kernel_rfl)
      | exact tab_assign rfl (by kernel_rfl) (by kernel_rfl) (by kernel_rfl)
      | exact tab_pick rfl (by kernel_rfl) (by kernel_rfl) true (by kernel_rfl) (by kernel_rfl)
  · first
      | exact tab_move rfl (by kernel_rfl) (by kernel_rfl) (by kernel_rfl)
      | exact tab_assign rfl (by kernel_rfl) (by kernel_rfl) (by kernel_rfl)
      | exact tab_pick rfl (by kernel_rfl) (by kernel_rfl) true (by kernel_rfl) (by kernel_rfl)
  · exact tab_load rfl (by kernel_rfl) (by kernel_rfl) (by kernel_rfl) (fun w hb => load_acc ((vu).keep hb))
  · exact tab_load rfl (by kernel_rfl) (by kernel_rfl) (by kernel_rfl) (fun w hb => load_acc ((vv).keep hb))
  · exact tab_call rfl (by kernel_rfl) (by kernel_rfl) (by kernel_rfl) Try.call18 (fun w hbr => HSA.out _ _ _ _ _ _ x6 y6 z6 x7 y7 z7 _ (vu.keep hbr).ra (vv.keep hbr).ra)
  · first
      | exact tab_move rfl (by kernel_rfl) (by kernel_rfl) (by kernel_rfl)
      | exact tab_assign rfl (by kernel_rfl) (by kernel_rfl) (by kernel_rfl)
      | exact tab_pick rfl (by kernel_rfl) (by kernel_rfl) true (by kernel_rfl) (by kernel_rfl)
  · first
      | exact tab_move rfl (by kernel_rfl) (by kernel_rfl) (by kernel_rfl)
      | exact tab_assign rfl (by kernel_rfl) (by kernel_rfl) (by kernel_rfl)
      | exact tab_pick rfl (by kernel_rfl) (by kernel_rfl) true (by kernel_rfl) (by kernel_rfl)
  · first
      | exact tab_move rfl (by kernel_rfl) (by kernel_rfl) (by kernel_rfl)
      | exact tab_assign rfl (by kernel_rfl) (by kernel_rfl) (by kernel_rfl)
      | exact tab_pick rfl (by kernel_rfl) (by kernel_rfl) true (by kernel_rfl) (by kernel_rfl)
  · first
      | exact tab_move rfl (by kernel_rfl) (by kernel_rfl) (by kernel_rfl)
      | exact tab_assign rfl (by kernel_rfl) (by kernel_rfl) (by kernel_rfl)
      | exact tab_pick rfl (by kernel_rfl) (by kernel_rfl) true (by kernel_rfl) (by kernel_rfl)
  · exact tab_eql rfl (by kernel_rfl) (by kernel_rfl) (k := .i64) (m := ae) (n := ae) (by kernel_rfl) (by kernel_rfl) (by rw [beq_self_eq_true]; kernel_rfl)
  · first
      | exact tab_move rfl (by kernel_rfl) (by kernel_rfl) (by kernel_rfl)
      | exact tab_assign rfl (by kernel_rfl) (by kernel_rfl) (by kernel_rfl)
      | exact tab_pick rfl (by kernel_rfl) (by kernel_rfl) true (by kernel_rfl) (by kernel_rfl)
  · first
      | exact tab_move rfl (by kernel_rfl) (by kernel_rfl) (by kernel_rfl)
      | exact tab_assign rfl (by kernel_rfl) (by kernel_rfl) (by kernel_rfl)
      | exact tab_pick rfl (by kernel_rfl) (by kernel_rfl) true (by kernel_rfl) (by kernel_rfl)
  · exact tab_load rfl (by kernel_rfl) (by kernel_rfl) (by kernel_rfl) (fun w hb => load_acc ((vo).keep hb))
  · exact tab_load rfl (by kernel_rfl) (by kernel_rfl) (by kernel_rfl) (fun w hb => load_acc ((va).keep hb))
  · exact tab_call rfl (by kernel_rfl) (by kernel_rfl) (by kernel_rfl) Try.call18 (fun w hbr => HS18.out _ _ _ _ _ _ x2 y2 z2 x1 y1 z1 _ (vo.keep hbr).ra (va.keep hbr).ra)
  · first
      | exact tab_move rfl (by kernel_rfl) (by kernel_rfl) (by kernel_rfl)
      | exact tab_assign rfl (by kernel_rfl) (by kernel_rfl) (by kernel_rfl)
      | exact tab_pick rfl (by kernel_rfl) (by kernel_rfl) true (by kernel_rfl) (by kernel_rfl)
  · first
      | exact tab_move rfl (by kernel_rfl) (by kernel_rfl) (by kernel_rfl)
      | exact tab_assign rfl (by kernel_rfl) (by kernel_rfl) (by kernel_rfl)
      | exact tab_pick rfl (by kernel_rfl) (by kernel_rfl) true (by kernel_rfl) (by kernel_rfl)
  · first
      | exact tab_move rfl (by kernel_rfl) (by kernel_rfl) (by kernel_rfl)
      | exact tab_assign rfl (by kernel_rfl) (by kernel_rfl) (by kernel_rfl)
      | exact tab_pick rfl (by kernel_rfl) (by kernel_rfl) true (by kernel_rfl) (by kernel_rfl)
  · first
      | exact tab_move rfl (by kernel_rfl) (by kernel_rfl) (by kernel_rfl)
      | exact tab_assign rfl (by kernel_rfl) (by kernel_rfl) (by kernel_rfl)
      | exact tab_pick rfl (by kernel_rfl) (by kernel_rfl) true (by kernel_rfl) (by kernel_rfl)
  · exact tab_call rfl (by kernel_rfl) (by kernel_rfl) (by kernel_rfl) Try.call19 (fun w hbr => (HS16.out _ _ c2 c _ (hl2.keep hbr) (hl.keep hbr)).mono (fun _ _ ⟨h, n9, hn⟩ => ⟨h, by rw [hn]; exact below_drewN (Below.refl _ _) _⟩))
  · first
      | exact tab_move rfl (by kernel_rfl) (by kernel_rfl) (by kernel_rfl)
      | exact tab_assign rfl (by kernel_rfl) (by kernel_rfl) (by kernel_rfl)
      | exact tab_pick rfl (by kernel_rfl) (by kernel_rfl) true (by kernel_rfl) (by kernel_rfl)
  · first
      | exact tab_move rfl (by kernel_rfl) (by kernel_rfl) (by kernel_rfl)
      | exact tab_assign rfl (by kernel_rfl) (by kernel_rfl) (by kernel_rfl)
      | exact tab_pick rfl (by kernel_rfl) (by kernel_rfl) true (by kernel_rfl) (by kernel_rfl)
  · intro w' hb'
    generalize hF : putL _ 0 _ _ = aF
    have e : aF.tmps[10]?.getD undef = .bool true := by rw [← hF]; kernel_rfl
    have ed : aF.defers = [] := by rw [← hF]; kernel_rfl
    clear hF
    go_wp2
    exact bodyPost_ret (v := .bool true) (by simp [results, Try.results3, go_sem, e]) ed ⟨rfl, bstep hB hb'⟩
theorem accumAdds_w (m : Int) (S1 N1 G1 : Option Addr) (x1 y1 z1 : Nat) (a : Acc) (L : Option Addr) (c : Nat) (l : List (Int × Int)) (p q : Int) (w : World) (hm : -9223372036854775808 ≤ m ∧ m ≤ 9223372036854775807) (ha : RA w S1 N1 G1 a) (ia : InA a) (hl : RL w L l) (_ : l.length ≤ 9223372036854775807) (_ : ∀ x ∈ l, (Lit.int .i64 x.1).wf = true ∧ (Lit.int .i64 x.2).wf = true) (hp : -9223372036854775808 ≤ p ∧ p ≤ 9223372036854775807) (hq : -9223372036854775808 ≤ q ∧ q ≤ 9223372036854775807) :
    Calls Try.prog 3 #[.int .i64 m, .agg #[.slice S1 a.s.length x1, .slice N1 a.n.length y1, .slice G1 a.g.length z1], .slice L l.length c, .int .i64 p, .int .i64 q] w fun e w' => e = .returned (.bool true) ∧ Below w.heap.size w w' :=
  accumAdds_walk S1 N1 G1 L x1 y1 z1 c a l m p q w ha ia hl hm hp hq
end Go.Proofs.Ytjhigfhgchpjcaa
