/-
  Contract: accum.Add.
-/
import Derived.Test.YtjhigfhgchpjcaaAccH
import Derived.Test.YtjhigfhgchpjcaaApart
namespace Go.Proofs.Ytjhigfhgchpjcaa
open Go.RowKit Runs Lagc
set_option linter.unusedVariables false
set_option linter.unusedSimpArgs false

theorem addAcc_e1 {a : Acc} {l : List (Int × Int)} {p m : Int} (h : accErr a ≠ 0) : addAcc a l p m = (.none, accErr a) := by unfold addAcc; rw [if_pos h]
theorem addAcc_e2 {a : Acc} {l : List (Int × Int)} {p m : Int} (h : accErr a = 0) (h2 : lagErr l ≠ 0) : addAcc a l p m = (.none, lagErr l) := by unfold addAcc; rw [if_neg (by simpa using h), if_pos h2]
theorem addAcc_e3 {a : Acc} {l : List (Int × Int)} {p m : Int} (h : accErr a = 0) (h2 : lagErr l = 0) (h3 : addArg a l p m = true) : addAcc a l p m = (.none, 2) := by unfold addAcc; rw [if_neg (by simpa using h), if_neg (by simpa using h2), if_pos h3]
theorem addAcc_e0 {a : Acc} {l : List (Int × Int)} {p m : Int} (h : accErr a = 0) (h2 : lagErr l = 0) (h3 : addArg a l p m = false) : addAcc a l p m = mrg a (lagAcc l p m) := by unfold addAcc; rw [if_neg (by simpa using h), if_neg (by simpa using h2), if_neg (by rw [h3]; simp)]

set_option maxRecDepth 20000 in
set_option maxHeartbeats 1000000 in
theorem accAdd_no (S N G L : Option Addr) (c1 c2 c3 c4 : Nat) (a : Acc) (l : List (Int × Int)) (p m : Int) (w : World) (hx : RA w S N G a) (hL : RL w L l) (l1 : a.s.length ≤ 140737488355328) (l2 : a.n.length ≤ 140737488355328) (l3 : a.g.length ≤ 140737488355328) (l4 : l.length ≤ 140737488355328) (hp : -9223372036854775808 ≤ p ∧ p ≤ 9223372036854775807) (hm : -9223372036854775808 ≤ m ∧ m ≤ 9223372036854775807)
    (hno : ¬ (accErr a = 0 ∧ lagErr l = 0 ∧ addArg a l p m = false)) :
    Calls Try.prog 14 #[.agg #[.slice S a.s.length c1, .slice N a.n.length c2, .slice G a.g.length c3], .slice L l.length c4, .int .i64 p, .int .i64 m] w (RetA w (addAcc a l p m)) := by
  have hbX : Below w.heap.size w ((w.alloc (.cells #[.slice S a.s.length c1, .slice N a.n.length c2, .slice G a.g.length c3] 25)).alloc (.cells #[.slice .none 0 0, .slice .none 0 0, .slice .none 0 0] 25)) := balloc (balloc (Below.refl _ _) _) _
  have hk1 := (Blk.new w 25 #[.slice S a.s.length c1, .slice N a.n.length c2, .slice G a.g.length c3]).alloc (.cells #[.slice .none 0 0, .slice .none 0 0, .slice .none 0 0] 25)
  have hk3 := Blk.newAt (w := (w.alloc (.cells #[.slice S a.s.length c1, .slice N a.n.length c2, .slice G a.g.length c3] 25))) (g := w.heap.size + 1) 25 #[.slice .none 0 0, .slice .none 0 0, .slice .none 0 0] (by simp)
  have HCA := fun w hx => accCheck_any S N G c1 c2 c3 a w hx l1 l2 l3
  have HCL := fun w hx => lagCheck_any L c4 l w hx l4
  by_cases ea : accErr a = 0
  · by_cases el : lagErr l = 0
    · have h3 : addArg a l p m = true := by
        cases e : addArg a l p m
        · exact absurd ⟨ea, el, e⟩ hno
        · rfl
      have HR := Lib.hid (addAcc_e3 ea el h3)
      have hls := (acc_fine.1 ea).ls
      have hll := (lagErr_zero el).1
      rw [ea] at HCA
      rw [el] at HCL
      have hd : (l.length ≠ a.s.length) ∨ (l.length = a.s.length ∧ m < 1) ∨ (l.length = a.s.length ∧ ¬ m < 1 ∧ 256 < m) ∨ (l.length = a.s.length ∧ ¬ m < 1 ∧ ¬ 256 < m ∧ p < 0) ∨ (l.length = a.s.length ∧ ¬ m < 1 ∧ ¬ 256 < m ∧ ¬ p < 0 ∧ 1000000000 - m < p) := by
        unfold addArg at h3
        rw [decide_eq_true_eq] at h3
        omega
      clear ea el h3 hno
      rcases hd with h | ⟨h, h1⟩ | ⟨h, h1, h2⟩ | ⟨h, h1, h2, h3⟩ | ⟨h, h1, h2, h3, h4⟩
      · have e1 : ((l.length : Int) != a.s.length) = true := by rw [bne_iff_ne]; omega
        clear h
        go_enter Try.func14, Try.ntmps14
        go_wp2_with fail
        refine (HCA _ (hx.keep hbX)).mono ?_
        rintro _ w1 ⟨rfl, hb1⟩
        have hB1 := bstep hbX hb1
        replace hk1 := hk1.keep hb1
        replace hk3 := hk3.keep hb1
        have qa0 : World.cell? w1 ⟨w.heap.size, 0, none⟩ = some (.slice S a.s.length c1) := hk1.cell 0
        have fa0 := hk1.frozen 0
        have qa1 : World.cell? w1 ⟨w.heap.size, 1, none⟩ = some (.slice N a.n.length c2) := hk1.cell 1
        have fa1 := hk1.frozen 1
        have qa2 : World.cell? w1 ⟨w.heap.size, 2, none⟩ = some (.slice G a.g.length c3) := hk1.cell 2
        have fa2 := hk1.frozen 2
        have fal := hk1.lt
        have q0 : World.cell? w1 ⟨(w.heap.size + 1), 0, none⟩ = some (.slice .none 0 0) := hk3.cell 0
        have f0 := hk3.frozen 0
        have q1 : World.cell? w1 ⟨(w.heap.size + 1), 1, none⟩ = some (.slice .none 0 0) := hk3.cell 1
        have f1 := hk3.frozen 1
        have q2 : World.cell? w1 ⟨(w.heap.size + 1), 2, none⟩ = some (.slice .none 0 0) := hk3.cell 2
        have f2 := hk3.frozen 2
        have fl := hk3.lt
        go_wp2_with fail
        refine (HCL _ (hL.keep hB1)).mono ?_
        rintro _ w2 ⟨rfl, hb2⟩
        have hB2 := bstep hB1 hb2
        clear qa0 qa1 qa2 q0 q1 q2 fa0 fa1 fa2 f0 f1 f2 fal fl
        replace hk1 := hk1.keep hb2
        replace hk3 := hk3.keep hb2
        have qa0 : World.cell? w2 ⟨w.heap.size, 0, none⟩ = some (.slice S a.s.length c1) := hk1.cell 0
        have fa0 := hk1.frozen 0
        have qa1 : World.cell? w2 ⟨w.heap.size, 1, none⟩ = some (.slice N a.n.length c2) := hk1.cell 1
        have fa1 := hk1.frozen 1
        have qa2 : World.cell? w2 ⟨w.heap.size, 2, none⟩ = some (.slice G a.g.length c3) := hk1.cell 2
        have fa2 := hk1.frozen 2
        have fal := hk1.lt
        have q0 : World.cell? w2 ⟨(w.heap.size + 1), 0, none⟩ = some (.slice .none 0 0) := hk3.cell 0
        have f0 := hk3.frozen 0
        have q1 : World.cell? w2 ⟨(w.heap.size + 1), 1, none⟩ = some (.slice .none 0 0) := hk3.cell 1
        have f1 := hk3.frozen 1
        have q2 : World.cell? w2 ⟨(w.heap.size + 1), 2, none⟩ = some (.slice .none 0 0) := hk3.cell 2
        have f2 := hk3.frozen 2
        have fl := hk3.lt
        go_wp2
        exact bodyPost_ret (v := .tuple #[.agg #[.slice .none 0 0, .slice .none 0 0, .slice .none 0 0], .int .i64 2]) (by simp [results, Try.results14, go_sem, q0, q1, q2, f0, f1, f2, fl]) rfl (RetA.no HR.out (by (repeat (first | with_reducible exact Below.refl _ _ | assumption | with_reducible refine below_drewN ?_ _ | with_reducible refine Below.drew ?_ | with_reducible refine balloc ?_ _ | (with_reducible refine Below.setCell ?_ ?_ _; rotate_left; focus (first | (simp; done) | (simp; omega) | omega))))))
      · have e1 : ((l.length : Int) != a.s.length) = false := by rw [bne_eq_false_iff_eq]; omega
        clear h
        go_enter Try.func14, Try.ntmps14
        go_wp2_with fail
        refine (HCA _ (hx.keep hbX)).mono ?_
        rintro _ w1 ⟨rfl, hb1⟩
        have hB1 := bstep hbX hb1
        replace hk1 := hk1.keep hb1
        replace hk3 := hk3.keep hb1
        have qa0 : World.cell? w1 ⟨w.heap.size, 0, none⟩ = some (.slice S a.s.length c1) := hk1.cell 0
        have fa0 := hk1.frozen 0
        have qa1 : World.cell? w1 ⟨w.heap.size, 1, none⟩ = some (.slice N a.n.length c2) := hk1.cell 1
        have fa1 := hk1.frozen 1
        have qa2 : World.cell? w1 ⟨w.heap.size, 2, none⟩ = some (.slice G a.g.length c3) := hk1.cell 2
        have fa2 := hk1.frozen 2
        have fal := hk1.lt
        have q0 : World.cell? w1 ⟨(w.heap.size + 1), 0, none⟩ = some (.slice .none 0 0) := hk3.cell 0
        have f0 := hk3.frozen 0
        have q1 : World.cell? w1 ⟨(w.heap.size + 1), 1, none⟩ = some (.slice .none 0 0) := hk3.cell 1
        have f1 := hk3.frozen 1
        have q2 : World.cell? w1 ⟨(w.heap.size + 1), 2, none⟩ = some (.slice .none 0 0) := hk3.cell 2
        have f2 := hk3.frozen 2
        have fl := hk3.lt
        go_wp2_with fail
        refine (HCL _ (hL.keep hB1)).mono ?_
        rintro _ w2 ⟨rfl, hb2⟩
        have hB2 := bstep hB1 hb2
        clear qa0 qa1 qa2 q0 q1 q2 fa0 fa1 fa2 f0 f1 f2 fal fl
        replace hk1 := hk1.keep hb2
        replace hk3 := hk3.keep hb2
        have qa0 : World.cell? w2 ⟨w.heap.size, 0, none⟩ = some (.slice S a.s.length c1) := hk1.cell 0
        have fa0 := hk1.frozen 0
        have qa1 : World.cell? w2 ⟨w.heap.size, 1, none⟩ = some (.slice N a.n.length c2) := hk1.cell 1
        have fa1 := hk1.frozen 1
        have qa2 : World.cell? w2 ⟨w.heap.size, 2, none⟩ = some (.slice G a.g.length c3) := hk1.cell 2
        have fa2 := hk1.frozen 2
        have fal := hk1.lt
        have q0 : World.cell? w2 ⟨(w.heap.size + 1), 0, none⟩ = some (.slice .none 0 0) := hk3.cell 0
        have f0 := hk3.frozen 0
        have q1 : World.cell? w2 ⟨(w.heap.size + 1), 1, none⟩ = some (.slice .none 0 0) := hk3.cell 1
        have f1 := hk3.frozen 1
        have q2 : World.cell? w2 ⟨(w.heap.size + 1), 2, none⟩ = some (.slice .none 0 0) := hk3.cell 2
        have f2 := hk3.frozen 2
        have fl := hk3.lt
        go_wp2
        exact bodyPost_ret (v := .tuple #[.agg #[.slice .none 0 0, .slice .none 0 0, .slice .none 0 0], .int .i64 2]) (by simp [results, Try.results14, go_sem, q0, q1, q2, f0, f1, f2, fl]) rfl (RetA.no HR.out (by (repeat (first | with_reducible exact Below.refl _ _ | assumption | with_reducible refine below_drewN ?_ _ | with_reducible refine Below.drew ?_ | with_reducible refine balloc ?_ _ | (with_reducible refine Below.setCell ?_ ?_ _; rotate_left; focus (first | (simp; done) | (simp; omega) | omega))))))
      · have e1 : ((l.length : Int) != a.s.length) = false := by rw [bne_eq_false_iff_eq]; omega
        clear h
        go_enter Try.func14, Try.ntmps14
        go_wp2_with fail
        refine (HCA _ (hx.keep hbX)).mono ?_
        rintro _ w1 ⟨rfl, hb1⟩
        have hB1 := bstep hbX hb1
        replace hk1 := hk1.keep hb1
        replace hk3 := hk3.keep hb1
        have qa0 : World.cell? w1 ⟨w.heap.size, 0, none⟩ = some (.slice S a.s.length c1) := hk1.cell 0
        have fa0 := hk1.frozen 0
        have qa1 : World.cell? w1 ⟨w.heap.size, 1, none⟩ = some (.slice N a.n.length c2) := hk1.cell 1
        have fa1 := hk1.frozen 1
        have qa2 : World.cell? w1 ⟨w.heap.size, 2, none⟩ = some (.slice G a.g.length c3) := hk1.cell 2
        have fa2 := hk1.frozen 2
        have fal := hk1.lt
        have q0 : World.cell? w1 ⟨(w.heap.size + 1), 0, none⟩ = some (.slice .none 0 0) := hk3.cell 0
        have f0 := hk3.frozen 0
        have q1 : World.cell? w1 ⟨(w.heap.size + 1), 1, none⟩ = some (.slice .none 0 0) := hk3.cell 1
        have f1 := hk3.frozen 1
        have q2 : World.cell? w1 ⟨(w.heap.size + 1), 2, none⟩ = some (.slice .none 0 0) := hk3.cell 2
        have f2 := hk3.frozen 2
        have fl := hk3.lt
        go_wp2_with fail
        refine (HCL _ (hL.keep hB1)).mono ?_
        rintro _ w2 ⟨rfl, hb2⟩
        have hB2 := bstep hB1 hb2
        clear qa0 qa1 qa2 q0 q1 q2 fa0 fa1 fa2 f0 f1 f2 fal fl
        replace hk1 := hk1.keep hb2
        replace hk3 := hk3.keep hb2
        have qa0 : World.cell? w2 ⟨w.heap.size, 0, none⟩ = some (.slice S a.s.length c1) := hk1.cell 0
        have fa0 := hk1.frozen 0
        have qa1 : World.cell? w2 ⟨w.heap.size, 1, none⟩ = some (.slice N a.n.length c2) := hk1.cell 1
        have fa1 := hk1.frozen 1
        have qa2 : World.cell? w2 ⟨w.heap.size, 2, none⟩ = some (.slice G a.g.length c3) := hk1.cell 2
        have fa2 := hk1.frozen 2
        have fal := hk1.lt
        have q0 : World.cell? w2 ⟨(w.heap.size + 1), 0, none⟩ = some (.slice .none 0 0) := hk3.cell 0
        have f0 := hk3.frozen 0
        have q1 : World.cell? w2 ⟨(w.heap.size + 1), 1, none⟩ = some (.slice .none 0 0) := hk3.cell 1
        have f1 := hk3.frozen 1
        have q2 : World.cell? w2 ⟨(w.heap.size + 1), 2, none⟩ = some (.slice .none 0 0) := hk3.cell 2
        have f2 := hk3.frozen 2
        have fl := hk3.lt
        go_wp2
        exact bodyPost_ret (v := .tuple #[.agg #[.slice .none 0 0, .slice .none 0 0, .slice .none 0 0], .int .i64 2]) (by simp [results, Try.results14, go_sem, q0, q1, q2, f0, f1, f2, fl]) rfl (RetA.no HR.out (by (repeat (first | with_reducible exact Below.refl _ _ | assumption | with_reducible refine below_drewN ?_ _ | with_reducible refine Below.drew ?_ | with_reducible refine balloc ?_ _ | (with_reducible refine Below.setCell ?_ ?_ _; rotate_left; focus (first | (simp; done) | (simp; omega) | omega))))))
      · have e1 : ((l.length : Int) != a.s.length) = false := by rw [bne_eq_false_iff_eq]; omega
        clear h
        go_enter Try.func14, Try.ntmps14
        go_wp2_with fail
        refine (HCA _ (hx.keep hbX)).mono ?_
        rintro _ w1 ⟨rfl, hb1⟩
        have hB1 := bstep hbX hb1
        replace hk1 := hk1.keep hb1
        replace hk3 := hk3.keep hb1
        have qa0 : World.cell? w1 ⟨w.heap.size, 0, none⟩ = some (.slice S a.s.length c1) := hk1.cell 0
        have fa0 := hk1.frozen 0
        have qa1 : World.cell? w1 ⟨w.heap.size, 1, none⟩ = some (.slice N a.n.length c2) := hk1.cell 1
        have fa1 := hk1.frozen 1
        have qa2 : World.cell? w1 ⟨w.heap.size, 2, none⟩ = some (.slice G a.g.length c3) := hk1.cell 2
        have fa2 := hk1.frozen 2
        have fal := hk1.lt
        have q0 : World.cell? w1 ⟨(w.heap.size + 1), 0, none⟩ = some (.slice .none 0 0) := hk3.cell 0
        have f0 := hk3.frozen 0
        have q1 : World.cell? w1 ⟨(w.heap.size + 1), 1, none⟩ = some (.slice .none 0 0) := hk3.cell 1
        have f1 := hk3.frozen 1
        have q2 : World.cell? w1 ⟨(w.heap.size + 1), 2, none⟩ = some (.slice .none 0 0) := hk3.cell 2
        have f2 := hk3.frozen 2
        have fl := hk3.lt
        go_wp2_with fail
        refine (HCL _ (hL.keep hB1)).mono ?_
        rintro _ w2 ⟨rfl, hb2⟩
        have hB2 := bstep hB1 hb2
        clear qa0 qa1 qa2 q0 q1 q2 fa0 fa1 fa2 f0 f1 f2 fal fl
        replace hk1 := hk1.keep hb2
        replace hk3 := hk3.keep hb2
        have qa0 : World.cell? w2 ⟨w.heap.size, 0, none⟩ = some (.slice S a.s.length c1) := hk1.cell 0
        have fa0 := hk1.frozen 0
        have qa1 : World.cell? w2 ⟨w.heap.size, 1, none⟩ = some (.slice N a.n.length c2) := hk1.cell 1
        have fa1 := hk1.frozen 1
        have qa2 : World.cell? w2 ⟨w.heap.size, 2, none⟩ = some (.slice G a.g.length c3) := hk1.cell 2
        have fa2 := hk1.frozen 2
        have fal := hk1.lt
        have q0 : World.cell? w2 ⟨(w.heap.size + 1), 0, none⟩ = some (.slice .none 0 0) := hk3.cell 0
        have f0 := hk3.frozen 0
        have q1 : World.cell? w2 ⟨(w.heap.size + 1), 1, none⟩ = some (.slice .none 0 0) := hk3.cell 1
        have f1 := hk3.frozen 1
        have q2 : World.cell? w2 ⟨(w.heap.size + 1), 2, none⟩ = some (.slice .none 0 0) := hk3.cell 2
        have f2 := hk3.frozen 2
        have fl := hk3.lt
        go_wp2
        exact bodyPost_ret (v := .tuple #[.agg #[.slice .none 0 0, .slice .none 0 0, .slice .none 0 0], .int .i64 2]) (by simp [results, Try.results14, go_sem, q0, q1, q2, f0, f1, f2, fl]) rfl (RetA.no HR.out (by (repeat (first | with_reducible exact Below.refl _ _ | assumption | with_reducible refine below_drewN ?_ _ | with_reducible refine Below.drew ?_ | with_reducible refine balloc ?_ _ | (with_reducible refine Below.setCell ?_ ?_ _; rotate_left; focus (first | (simp; done) | (simp; omega) | omega))))))
      · have e1 : ((l.length : Int) != a.s.length) = false := by rw [bne_eq_false_iff_eq]; omega
        clear h
        go_enter Try.func14, Try.ntmps14
        go_wp2_with fail
        refine (HCA _ (hx.keep hbX)).mono ?_
        rintro _ w1 ⟨rfl, hb1⟩
        have hB1 := bstep hbX hb1
        replace hk1 := hk1.keep hb1
        replace hk3 := hk3.keep hb1
        have qa0 : World.cell? w1 ⟨w.heap.size, 0, none⟩ = some (.slice S a.s.length c1) := hk1.cell 0
        have fa0 := hk1.frozen 0
        have qa1 : World.cell? w1 ⟨w.heap.size, 1, none⟩ = some (.slice N a.n.length c2) := hk1.cell 1
        have fa1 := hk1.frozen 1
        have qa2 : World.cell? w1 ⟨w.heap.size, 2, none⟩ = some (.slice G a.g.length c3) := hk1.cell 2
        have fa2 := hk1.frozen 2
        have fal := hk1.lt
        have q0 : World.cell? w1 ⟨(w.heap.size + 1), 0, none⟩ = some (.slice .none 0 0) := hk3.cell 0
        have f0 := hk3.frozen 0
        have q1 : World.cell? w1 ⟨(w.heap.size + 1), 1, none⟩ = some (.slice .none 0 0) := hk3.cell 1
        have f1 := hk3.frozen 1
        have q2 : World.cell? w1 ⟨(w.heap.size + 1), 2, none⟩ = some (.slice .none 0 0) := hk3.cell 2
        have f2 := hk3.frozen 2
        have fl := hk3.lt
        go_wp2_with fail
        refine (HCL _ (hL.keep hB1)).mono ?_
        rintro _ w2 ⟨rfl, hb2⟩
        have hB2 := bstep hB1 hb2
        clear qa0 qa1 qa2 q0 q1 q2 fa0 fa1 fa2 f0 f1 f2 fal fl
        replace hk1 := hk1.keep hb2
        replace hk3 := hk3.keep hb2
        have qa0 : World.cell? w2 ⟨w.heap.size, 0, none⟩ = some (.slice S a.s.length c1) := hk1.cell 0
        have fa0 := hk1.frozen 0
        have qa1 : World.cell? w2 ⟨w.heap.size, 1, none⟩ = some (.slice N a.n.length c2) := hk1.cell 1
        have fa1 := hk1.frozen 1
        have qa2 : World.cell? w2 ⟨w.heap.size, 2, none⟩ = some (.slice G a.g.length c3) := hk1.cell 2
        have fa2 := hk1.frozen 2
        have fal := hk1.lt
        have q0 : World.cell? w2 ⟨(w.heap.size + 1), 0, none⟩ = some (.slice .none 0 0) := hk3.cell 0
        have f0 := hk3.frozen 0
        have q1 : World.cell? w2 ⟨(w.heap.size + 1), 1, none⟩ = some (.slice .none 0 0) := hk3.cell 1
        have f1 := hk3.frozen 1
        have q2 : World.cell? w2 ⟨(w.heap.size + 1), 2, none⟩ = some (.slice .none 0 0) := hk3.cell 2
        have f2 := hk3.frozen 2
        have fl := hk3.lt
        go_wp2
        exact bodyPost_ret (v := .tuple #[.agg #[.slice .none 0 0, .slice .none 0 0, .slice .none 0 0], .int .i64 2]) (by simp [results, Try.results14, go_sem, q0, q1, q2, f0, f1, f2, fl]) rfl (RetA.no HR.out (by (repeat (first | with_reducible exact Below.refl _ _ | assumption | with_reducible refine below_drewN ?_ _ | with_reducible refine Below.drew ?_ | with_reducible refine balloc ?_ _ | (with_reducible refine Below.setCell ?_ ?_ _; rotate_left; focus (first | (simp; done) | (simp; omega) | omega))))))
    · have HR := Lib.hid (addAcc_e2 (p := p) (m := m) ea el)
      have e2 : (lagErr l != 0) = true := by rw [bne_iff_ne]; exact el
      rw [ea] at HCA
      clear ea el hno
      generalize lagErr l = E at *
      go_enter Try.func14, Try.ntmps14
      go_wp2_with fail
      refine (HCA _ (hx.keep hbX)).mono ?_
      rintro _ w1 ⟨rfl, hb1⟩
      have hB1 := bstep hbX hb1
      replace hk1 := hk1.keep hb1
      replace hk3 := hk3.keep hb1
      have qa0 : World.cell? w1 ⟨w.heap.size, 0, none⟩ = some (.slice S a.s.length c1) := hk1.cell 0
      have fa0 := hk1.frozen 0
      have qa1 : World.cell? w1 ⟨w.heap.size, 1, none⟩ = some (.slice N a.n.length c2) := hk1.cell 1
      have fa1 := hk1.frozen 1
      have qa2 : World.cell? w1 ⟨w.heap.size, 2, none⟩ = some (.slice G a.g.length c3) := hk1.cell 2
      have fa2 := hk1.frozen 2
      have fal := hk1.lt
      have q0 : World.cell? w1 ⟨(w.heap.size + 1), 0, none⟩ = some (.slice .none 0 0) := hk3.cell 0
      have f0 := hk3.frozen 0
      have q1 : World.cell? w1 ⟨(w.heap.size + 1), 1, none⟩ = some (.slice .none 0 0) := hk3.cell 1
      have f1 := hk3.frozen 1
      have q2 : World.cell? w1 ⟨(w.heap.size + 1), 2, none⟩ = some (.slice .none 0 0) := hk3.cell 2
      have f2 := hk3.frozen 2
      have fl := hk3.lt
      go_wp2_with fail
      refine (HCL _ (hL.keep hB1)).mono ?_
      rintro _ w2 ⟨rfl, hb2⟩
      have hB2 := bstep hB1 hb2
      clear qa0 qa1 qa2 q0 q1 q2 fa0 fa1 fa2 f0 f1 f2 fal fl
      replace hk1 := hk1.keep hb2
      replace hk3 := hk3.keep hb2
      have qa0 : World.cell? w2 ⟨w.heap.size, 0, none⟩ = some (.slice S a.s.length c1) := hk1.cell 0
      have fa0 := hk1.frozen 0
      have qa1 : World.cell? w2 ⟨w.heap.size, 1, none⟩ = some (.slice N a.n.length c2) := hk1.cell 1
      have fa1 := hk1.frozen 1
      have qa2 : World.cell? w2 ⟨w.heap.size, 2, none⟩ = some (.slice G a.g.length c3) := hk1.cell 2
      have fa2 := hk1.frozen 2
      have fal := hk1.lt
      have q0 : World.cell? w2 ⟨(w.heap.size + 1), 0, none⟩ = some (.slice .none 0 0) := hk3.cell 0
      have f0 := hk3.frozen 0
      have q1 : World.cell? w2 ⟨(w.heap.size + 1), 1, none⟩ = some (.slice .none 0 0) := hk3.cell 1
      have f1 := hk3.frozen 1
      have q2 : World.cell? w2 ⟨(w.heap.size + 1), 2, none⟩ = some (.slice .none 0 0) := hk3.cell 2
      have f2 := hk3.frozen 2
      have fl := hk3.lt
      go_wp2
      exact bodyPost_ret (v := .tuple #[.agg #[.slice .none 0 0, .slice .none 0 0, .slice .none 0 0], .int .i64 E]) (by simp [results, Try.results14, go_sem, q0, q1, q2, f0, f1, f2, fl]) rfl (RetA.no HR.out (by (repeat (first | with_reducible exact Below.refl _ _ | assumption | with_reducible refine below_drewN ?_ _ | with_reducible refine Below.drew ?_ | with_reducible refine balloc ?_ _ | (with_reducible refine Below.setCell ?_ ?_ _; rotate_left; focus (first | (simp; done) | (simp; omega) | omega))))))
  · have HR := Lib.hid (addAcc_e1 (l := l) (p := p) (m := m) ea)
    have e2 : (accErr a != 0) = true := by rw [bne_iff_ne]; exact ea
    clear ea hno
    generalize accErr a = E at *
    go_enter Try.func14, Try.ntmps14
    go_wp2_with fail
    refine (HCA _ (hx.keep hbX)).mono ?_
    rintro _ w1 ⟨rfl, hb1⟩
    have hB1 := bstep hbX hb1
    replace hk1 := hk1.keep hb1
    replace hk3 := hk3.keep hb1
    have qa0 : World.cell? w1 ⟨w.heap.size, 0, none⟩ = some (.slice S a.s.length c1) := hk1.cell 0
    have fa0 := hk1.frozen 0
    have qa1 : World.cell? w1 ⟨w.heap.size, 1, none⟩ = some (.slice N a.n.length c2) := hk1.cell 1
    have fa1 := hk1.frozen 1
    have qa2 : World.cell? w1 ⟨w.heap.size, 2, none⟩ = some (.slice G a.g.length c3) := hk1.cell 2
    have fa2 := hk1.frozen 2
    have fal := hk1.lt
    have q0 : World.cell? w1 ⟨(w.heap.size + 1), 0, none⟩ = some (.slice .none 0 0) := hk3.cell 0
    have f0 := hk3.frozen 0
    have q1 : World.cell? w1 ⟨(w.heap.size + 1), 1, none⟩ = some (.slice .none 0 0) := hk3.cell 1
    have f1 := hk3.frozen 1
    have q2 : World.cell? w1 ⟨(w.heap.size + 1), 2, none⟩ = some (.slice .none 0 0) := hk3.cell 2
    have f2 := hk3.frozen 2
    have fl := hk3.lt
    go_wp2
    exact bodyPost_ret (v := .tuple #[.agg #[.slice .none 0 0, .slice .none 0 0, .slice .none 0 0], .int .i64 E]) (by simp [results, Try.results14, go_sem, q0, q1, q2, f0, f1, f2, fl]) rfl (RetA.no HR.out (by (repeat (first | with_reducible exact Below.refl _ _ | assumption | with_reducible refine below_drewN ?_ _ | with_reducible refine Below.drew ?_ | with_reducible refine balloc ?_ _ | (with_reducible refine Below.setCell ?_ ?_ _; rotate_left; focus (first | (simp; done) | (simp; omega) | omega))))))
end Go.Proofs.Ytjhigfhgchpjcaa
